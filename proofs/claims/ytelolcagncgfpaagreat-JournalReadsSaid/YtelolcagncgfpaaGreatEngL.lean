/- A generator of conditions for a walk, part 12: contracts over memory: what a function does to a few blocks, used among many. No program in sight. -/
import Derived.Test.YtelolcagncgfpaaGreatEngK
namespace Go.Proofs.YtelolcagncgfpaaGreat
open Go.RowKit
set_option linter.unusedSimpArgs false
set_option linter.unusedVariables false
def bk (L : IdMap) (n i : Nat) : Nat := match lkL L i with | some (some b) => b | _ => n + i
def ren0 (r : Nat → Nat) (v : Value) : Value := match ref0 v with | none => v | some (a, f) => match isRig a.spot with | true => v | false => f ⟨r a.block, a.off, a.spot⟩
def ren1 (r : Nat → Nat) (v : Value) : Value := match parts1 v with | none => ren0 r v | some (l, f) => f (l.map (ren0 r))
def renR (r : Nat → Nat) (v : Value) : Value := match tup v with | none => ren1 r v | some l => .tuple (l.map (ren1 r)).toArray
theorem mark_eq {v : Value} {b o n k : Nat} (h : mark v = some (b, o, n, k)) : v = .slice (some ⟨b, o, some 0⟩) n k := by
 unfold mark at h
 split at h
 · simp at h; obtain ⟨rfl, rfl, rfl, rfl⟩ := h; rfl
 · cases h
theorem ref0_self {v : Value} {a : Addr} {f : Addr → Value} (h : ref0 v = some (a, f)) (b : Addr) (ho : b.off = a.off) (hs : b.spot = none) : ref0 (f b) = some (b, f) := by
 obtain ⟨bb, bo, bs⟩ := b
 dsimp only at ho hs
 subst ho hs
 unfold ref0 at h
 split at h
 · simp at h; obtain ⟨rfl, rfl⟩ := h; rfl
 · simp at h; obtain ⟨rfl, rfl⟩ := h; rfl
 · simp at h; obtain ⟨rfl, rfl⟩ := h; rfl
 · simp at h; obtain ⟨rfl, rfl⟩ := h; rfl
 · simp at h; obtain ⟨rfl, rfl⟩ := h; rfl
 · cases h
theorem ref0_nomark {v : Value} {a : Addr} {f : Addr → Value} (h : ref0 v = some (a, f)) {b : Addr} (hb : b.spot = none) : mark (f b) = none := by
 obtain ⟨bb, bo, bs⟩ := b
 dsimp only at hb
 subst hb
 unfold ref0 at h
 split at h
 · simp at h; obtain ⟨rfl, rfl⟩ := h; rfl
 · simp at h; obtain ⟨rfl, rfl⟩ := h; rfl
 · simp at h; obtain ⟨rfl, rfl⟩ := h; rfl
 · simp at h; obtain ⟨rfl, rfl⟩ := h; rfl
 · simp at h; obtain ⟨rfl, rfl⟩ := h; rfl
 · cases h
theorem LR.ren {f : Value → Value} {R R' : Value → Value → Prop} (h : ∀ v c, R v c → R' (f v) c) : ∀ {l l' : List Value}, LR R l l' → LR R' (l.map f) l'
 | [], [], _ => trivial
 | _ :: _, _ :: _, x => ⟨h _ _ x.1, LR.ren h x.2⟩
theorem parts1_ref {v : Value} {l : List Value} {f : List Value → Value} (h : parts1 v = some (l, f)) (l' : List Value) (hn : l'.length = l.length) : parts1 (f l') = some (l', f) := by
 unfold parts1 at h
 split at h
 · simp at h; obtain ⟨rfl, rfl⟩ := h; rfl
 · simp at h; obtain ⟨rfl, rfl⟩ := h; rfl
 · simp at h
   obtain ⟨rfl, rfl⟩ := h
   match l', hn with
   | [c], _ => rfl
 · cases h
theorem parts1_ren0 {r : Nat → Nat} {v : Value} (h : parts1 v = none) : parts1 (ren0 r v) = none := by
 unfold ren0
 cases e : ref0 v with
 | none => exact h
 | some x =>
  obtain ⟨a, f⟩ := x
  dsimp only
  cases isRig a.spot with
  | true => exact h
  | false =>
  unfold ref0 at e
  split at e
  · simp at e; obtain ⟨rfl, rfl⟩ := e; rfl
  · simp at e; obtain ⟨rfl, rfl⟩ := e; rfl
  · simp at e; obtain ⟨rfl, rfl⟩ := e; rfl
  · simp at e; obtain ⟨rfl, rfl⟩ := e; rfl
  · simp at e; obtain ⟨rfl, rfl⟩ := e; rfl
  · cases e
theorem tup_ren1 {r : Nat → Nat} {v : Value} (h : tup v = none) : tup (ren1 r v) = none := by
 unfold ren1
 cases e : parts1 v with
 | none =>
  dsimp only
  unfold ren0
  cases e2 : ref0 v with
  | none => exact h
  | some x =>
   obtain ⟨a, f⟩ := x
   dsimp only
   cases isRig a.spot with
   | true => exact h
   | false =>
   unfold ref0 at e2
   split at e2
   · simp at e2; obtain ⟨rfl, rfl⟩ := e2; rfl
   · simp at e2; obtain ⟨rfl, rfl⟩ := e2; rfl
   · simp at e2; obtain ⟨rfl, rfl⟩ := e2; rfl
   · simp at e2; obtain ⟨rfl, rfl⟩ := e2; rfl
   · simp at e2; obtain ⟨rfl, rfl⟩ := e2; rfl
   · cases e2
 | some x =>
  obtain ⟨l, f⟩ := x
  unfold parts1 at e
  split at e
  · simp at e; obtain ⟨rfl, rfl⟩ := e; rfl
  · simp at e; obtain ⟨rfl, rfl⟩ := e; rfl
  · simp at e; obtain ⟨rfl, rfl⟩ := e; rfl
  · cases e
section
variable {m1 m2 : BM} {r : Nat → Nat} (hb : ∀ i g s, m1 i g s → m2 (r i) g s)
include hb
theorem V0.ren {v c : Value} (h : V0 m1 v c) : V0 m2 (ren0 r v) c := by
 unfold V0 at h
 cases em : mark v with
 | some q =>
  obtain ⟨b, o, n, k⟩ := q
  rw [em] at h
  obtain rfl := mark_eq em
  obtain ⟨g, s, hm, hx⟩ := h
  exact ⟨g, s, hb _ _ _ hm, hx⟩
 | none =>
  rw [em] at h
  dsimp only at h
  unfold ren0
  cases e : ref0 v with
  | none => rw [e] at h; unfold V0; rw [em]; dsimp only; rw [e]; exact h
  | some x =>
   obtain ⟨a, f⟩ := x
   rw [e] at h
   obtain ⟨d, ⟨hs, g, s, hm, hsn, rfl⟩ | ⟨hs, rfl⟩, rfl⟩ := h
   · dsimp only
     rw [show isRig a.spot = false by rw [hs]; rfl]
     unfold V0
     dsimp only
     rw [ref0_nomark e (b := ⟨r a.block, a.off, a.spot⟩) hs]
     dsimp only
     rw [ref0_self e ⟨r a.block, a.off, a.spot⟩ rfl hs]
     exact ⟨_, .inl ⟨hs, g, s, hb _ _ _ hm, hsn, rfl⟩, rfl⟩
   · dsimp only
     rw [hs]
     unfold V0
     rw [em]
     dsimp only
     rw [e]
     exact ⟨_, .inr ⟨hs, rfl⟩, rfl⟩
theorem V1.ren {v c : Value} (h : V1 m1 v c) : V1 m2 (ren1 r v) c := by
 unfold ren1
 cases e : parts1 v with
 | none =>
  unfold V1 at h ⊢
  rw [e] at h
  dsimp only
  rw [parts1_ren0 e]
  exact V0.ren hb h
 | some x =>
  obtain ⟨l, f⟩ := x
  unfold V1 at h ⊢
  rw [e] at h
  dsimp only
  rw [parts1_ref e _ (List.length_map _)]
  obtain ⟨l', hl, hc⟩ := h
  exact ⟨l', LR.ren (fun _ _ x => V0.ren hb x) hl, hc⟩
theorem VR.ren {v c : Value} (h : VR m1 v c) : VR m2 (renR r v) c := by
 unfold renR
 cases e : Go.Proofs.YtelolcagncgfpaaGreat.tup v with
 | none =>
  unfold VR at h ⊢
  rw [e] at h
  dsimp only
  rw [tup_ren1 e]
  exact V1.ren hb h
 | some l =>
  unfold VR at h
  rw [e] at h
  obtain ⟨l', hl, hc⟩ := h
  exact ⟨l', LR.ren (fun _ _ x => V1.ren hb x) hl, hc⟩
end
def relL (r : Nat → Nat) (cs cs' : List Value) : Prop := (cs' = cs ∧ ∀ v ∈ cs, still1 v = true) ∨ cs' = cs.map (ren1 r)
theorem relL_ok {m1 m2 : BM} {r : Nat → Nat} (hb : ∀ i g s, m1 i g s → m2 (r i) g s) {cs cs' l : List Value} (h : relL r cs cs') (hv : LR (V1 m1) cs l) : LR (V1 m2) cs' l := by
 rcases h with ⟨rfl, h⟩ | rfl
 · have e : ∀ (v c : Value), v ∈ cs' → V1 m1 v c → V1 m2 v c := fun v c hv' hc => V1.still (h v hv') hc
   clear h
   induction cs' generalizing l with
   | nil => cases l with | nil => trivial | cons _ _ => exact hv.elim
   | cons v cs ih =>
    cases l with
    | nil => exact hv.elim
    | cons c l => exact ⟨e v c (by simp) hv.1, ih hv.2 fun u c hu => e u c (by simp [hu])⟩
 · exact LR.ren (fun _ _ x => V1.ren hb x) hv
theorem relL_flat {r : Nat → Nat} {cs : List Value} (h : ∀ v ∈ cs, flat1 v = true) : relL r cs cs := .inl ⟨rfl, fun v hv => still1_flat (h v hv)⟩
theorem relL_still {r : Nat → Nat} {cs : List Value} (h : ∀ v ∈ cs, still1 v = true) : relL r cs cs := .inl ⟨rfl, h⟩
theorem relL_map {r : Nat → Nat} {cs : List Value} : relL r cs (cs.map (ren1 r)) := .inr rfl
def relI (r : Nat → Nat) (it it' : Itm) : Prop :=
 match it with
 | .own ty cs => ∃ cs', relL r cs cs' ∧ it' = .own ty cs'
 | .row ty size cap cs => ∃ cs', relL r cs cs' ∧ it' = .row ty size cap cs'
 | .lst ty size cap cs => ∃ cs', relL r cs cs' ∧ it' = .lst ty size cap cs'
 | .mp ks vs => ∃ vs', relL r vs vs' ∧ it' = .mp ks vs'
 | .abs wr S Φ => wr = true ∧ it' = .abs wr S Φ
 | _ => False
theorem relI_mine {r : Nat → Nat} {it it' : Itm} (h : relI r it it') : it.mine = true ∧ it'.mine = true := by
 unfold relI at h
 split at h <;> first | exact h.elim | (obtain ⟨_, _, rfl⟩ := h; exact ⟨rfl, rfl⟩) | (obtain ⟨hw, rfl⟩ := h; exact ⟨hw, hw⟩)
theorem relI_blk {r : Nat → Nat} {it it' : Itm} (h : relI r it it') {g s b : Nat} : it'.blk g s b ↔ it.blk g s b := by
 unfold relI at h
 split at h <;> first | exact h.elim | (obtain ⟨_, _, rfl⟩ := h; exact Iff.rfl) | (obtain ⟨hw, rfl⟩ := h; exact Iff.rfl)
theorem relL_nil {r : Nat → Nat} {cs' : List Value} (h : relL r [] cs') : cs' = [] := by rcases h with ⟨h, _⟩ | h <;> exact h
theorem relI_ok {m1 m2 : BM} {r : Nat → Nat} (hb : ∀ i g s, m1 i g s → m2 (r i) g s) {F F' : Nat → Prop} {B B' : Nat} {w : World} {g s : Nat} {it it' : Itm} (h : relI r it it') (hf : ∀ b, it.blk g s b → B ≤ b ∨ F b → B' ≤ b ∨ F' b) (ok : ItmOk F B m1 w g s it) :
 ItmOk F' B' m2 w g s it' := by
 have row : ∀ {ty : TypeId} {size cap : Nat} {cs cs' : List Value}, it.one = true → relL r cs cs' → s = 0 → RowIs F B m1 w g ty size cap cs → RowIs F' B' m2 w g ty size cap cs' := by
  rintro ty size cap cs cs' ho hl rfl ⟨a, b, l, cur, x, y⟩
  exact ⟨hf g ((Itm.blk_one ho).2 ⟨zero_ne_nilS, rfl⟩) a, b, l, cur, relL_ok hb hl x, y⟩
 unfold relI at h
 split at h
 · obtain ⟨cs', hl, rfl⟩ := h
   obtain ⟨rfl, b, l, x, y⟩ := ok
   exact ⟨rfl, hf g ⟨zero_ne_nilS, rfl⟩ b, l, relL_ok hb hl x, y⟩
 · obtain ⟨cs', hl, rfl⟩ := h
   exact ⟨ok.1, row rfl hl ok.1 ok.2⟩
 · obtain ⟨cs', hl, rfl⟩ := h
   rcases ok with ⟨a, b, rfl⟩ | ⟨a, x⟩
   · exact .inl ⟨a, b, relL_nil hl⟩
   · exact .inr ⟨a, row rfl hl a x⟩
 · obtain ⟨vs', hl, rfl⟩ := h
   obtain ⟨rfl, b, E, c, x, y, z⟩ := ok
   exact ⟨rfl, hf g ⟨zero_ne_nilS, rfl⟩ b, E, c, x, y, relL_ok hb hl z⟩
 · obtain ⟨hw, rfl⟩ := h
   obtain ⟨a, c, d, e⟩ := ok
   exact ⟨a, c, fun hw k hk => hf k hk (d hw k hk), e⟩
 · exact h.elim
def relH (r : Nat → Nat) : HP → HP → Prop
 | [], h' => h' = []
 | (i, it) :: h, h' => match it.mine with
  | true => ∃ it' h2, relI r it it' ∧ relH r h h2 ∧ h' = (r i, it') :: h2
  | false => lkH h i = none ∧ relH r h h'
theorem relH_nil {r : Nat → Nat} : relH r [] [] := rfl
theorem relH_own {r : Nat → Nat} {i : Nat} {ty : TypeId} {cs cs' : List Value} {h h' : HP} (hl : relL r cs cs') (hh : relH r h h') : relH r ((i, .own ty cs) :: h) ((r i, .own ty cs') :: h') := ⟨_, _, ⟨_, hl, rfl⟩, hh, rfl⟩
theorem relH_row {r : Nat → Nat} {i : Nat} {ty : TypeId} {size cap : Nat} {cs cs' : List Value} {h h' : HP} (hl : relL r cs cs') (hh : relH r h h') : relH r ((i, .row ty size cap cs) :: h) ((r i, .row ty size cap cs') :: h') := ⟨_, _, ⟨_, hl, rfl⟩, hh, rfl⟩
theorem relH_lst {r : Nat → Nat} {i : Nat} {ty : TypeId} {size cap : Nat} {cs cs' : List Value} {h h' : HP} (hl : relL r cs cs') (hh : relH r h h') : relH r ((i, .lst ty size cap cs) :: h) ((r i, .lst ty size cap cs') :: h') := ⟨_, _, ⟨_, hl, rfl⟩, hh, rfl⟩
theorem relH_mp {r : Nat → Nat} {i : Nat} {ks vs vs' : List Value} {h h' : HP} (hl : relL r vs vs') (hh : relH r h h') : relH r ((i, .mp ks vs) :: h) ((r i, .mp ks vs') :: h') := ⟨_, _, ⟨_, hl, rfl⟩, hh, rfl⟩
theorem relH_abs {r : Nat → Nat} {i : Nat} {S : Nat → Prop} {Φ : Nat → World → Prop} {h h' : HP} (hh : relH r h h') : relH r ((i, .abs true S Φ) :: h) ((r i, .abs true S Φ) :: h') := ⟨_, _, ⟨rfl, rfl⟩, hh, rfl⟩
theorem relH_fact {r : Nat → Nat} {i : Nat} {S : Nat → Prop} {Φ : Nat → World → Prop} {h h' : HP} (e : lkH h i = none) (hh : relH r h h') : relH r ((i, .abs false S Φ) :: h) h' := ⟨e, hh⟩
theorem relH_view {r : Nat → Nat} {i : Nat} {cs : List Value} {h h' : HP} (e : lkH h i = none) (hh : relH r h h') : relH r ((i, .view cs) :: h) h' := ⟨e, hh⟩
theorem relH_lview {r : Nat → Nat} {i : Nat} {cs : List Value} {h h' : HP} (e : lkH h i = none) (hh : relH r h h') : relH r ((i, .lview cs) :: h) h' := ⟨e, hh⟩
theorem relH_lk {r : Nat → Nat} (inj : ∀ i j, r i = r j → i = j) : ∀ {h h' : HP}, relH r h h' → ∀ j it', lkH h' j = some it' → ∃ i it, r i = j ∧ lkH h i = some it ∧ relI r it it'
 | [], h', e, j, it', e1 => by cases e; cases e1
 | (i, it) :: h, h', hr, j, it', e1 => by
  unfold relH at hr
  split at hr
  · obtain ⟨it2, h2, hi, hh, rfl⟩ := hr
    by_cases hj : r i = j
    · subst hj
      have : it2 = it' := by simpa [lkH] using e1
      subst this
      exact ⟨i, it, rfl, by simp [lkH], hi⟩
    · unfold lkH at e1
      rw [beq_no hj] at e1
      obtain ⟨i2, itm, rfl, e2, h3⟩ := relH_lk inj hh j it' e1
      refine ⟨i2, itm, rfl, ?_, h3⟩
      unfold lkH
      rw [beq_no (fun z => hj (by rw [z]))]
      exact e2
  · obtain ⟨hn, hh⟩ := hr
    obtain ⟨i2, itm, rfl, e2, h3⟩ := relH_lk inj hh j it' e1
    refine ⟨i2, itm, rfl, ?_, h3⟩
    unfold lkH
    rw [beq_no (fun z => by subst z; rw [hn] at e2; cases e2)]
    exact e2
def dropM (L : IdMap) : HP → HP → HP
 | [], h => h
 | (i, it) :: r, h => match it.mine, lkL L i with | true, some (some b) => rmH (dropM L r h) b | _, _ => dropM L r h
theorem dropM_lk {L : IdMap} {h : HP} {j : Nat} {jt : Itm} : ∀ {h0 : HP}, lkH (dropM L h0 h) j = some jt → lkH h j = some jt ∧ ∀ i it0, lkH h0 i = some it0 → it0.mine = true → lkL L i ≠ some (some j)
 | [], e => ⟨e, fun i it0 e => by cases e⟩
 | (i, it) :: r, e => by
  unfold dropM at e
  split at e
  · rename_i b hm hl
    rw [lkH_rm] at e
    split at e
    · cases e
    · rename_i hjb
      obtain ⟨h1, h2⟩ := dropM_lk e
      refine ⟨h1, fun i2 it0 e2 hm2 hl2 => ?_⟩
      by_cases hi : i = i2
      · subst hi
        rw [hl] at hl2
        cases hl2
        exact hjb rfl
      · unfold lkH at e2
        rw [beq_no hi] at e2
        exact h2 i2 it0 e2 hm2 hl2
  · rename_i hnot
    obtain ⟨h1, h2⟩ := dropM_lk e
    refine ⟨h1, fun i2 it0 e2 hm2 hl2 => ?_⟩
    by_cases hi : i = i2
    · subst hi
      have : it = it0 := by simpa [lkH] using e2
      subst this
      exact hnot j hm2 hl2
    · unfold lkH at e2
      rw [beq_no hi] at e2
      exact h2 i2 it0 e2 hm2 hl2
theorem lkH_append : ∀ {a b : HP} {j : Nat} {it : Itm}, lkH (a ++ b) j = some it → lkH a j = some it ∨ (lkH a j = none ∧ lkH b j = some it)
 | [], b, j, it, e => .inr ⟨rfl, e⟩
 | (i, x) :: a, b, j, it, e => by
  rw [List.cons_append] at e
  unfold lkH at e
  by_cases hj : i = j
  · subst hj
    rw [beq_refl'] at e
    left; unfold lkH; rw [beq_refl']; exact e
  · rw [beq_no hj] at e
    rcases lkH_append (a := a) e with h | ⟨h1, h2⟩
    · left; unfold lkH; rw [beq_no hj]; exact h
    · right; refine ⟨?_, h2⟩; unfold lkH; rw [beq_no hj]; exact h1
theorem ItmOk.fence {F : Nat → Prop} {B : Nat} {m : BM} {w : World} {g s b : Nat} {it : Itm} (hm : it.mine = true) (hb : it.blk g s b) (ok : ItmOk F B m w g s it) : B ≤ b ∨ F b := by
 cases it with
 | own ty cs => exact hb.2 ▸ ok.2.1
 | view cs => cases hm
 | lview cs => cases hm
 | row ty size cap cs => exact hb.2 ▸ ok.2.1
 | lst ty size cap cs =>
  rcases ok with ⟨a, _⟩ | ⟨_, ok⟩
  · exact absurd a hb.1
  · exact hb.2 ▸ ok.1
 | mp ks vs => exact hb.2 ▸ ok.2.1
 | gv g0 o => cases hm
 | abs wr S Φ => exact ok.2.2.1 hm b hb
theorem ItmOk.refence {F F' : Nat → Prop} {B B' : Nat} {m : BM} {w : World} {g s : Nat} {it : Itm} (hf : it.mine = true → ∀ b, it.blk g s b → B' ≤ b ∨ F' b) (ok : ItmOk F B m w g s it) : ItmOk F' B' m w g s it := by
 cases it with
 | own ty cs => obtain ⟨rfl, _, x⟩ := ok; exact ⟨rfl, hf rfl g ⟨zero_ne_nilS, rfl⟩, x⟩
 | view cs => exact ok
 | lview cs => exact ok
 | row ty size cap cs => obtain ⟨rfl, _, x⟩ := ok; exact ⟨rfl, hf rfl g ⟨zero_ne_nilS, rfl⟩, x⟩
 | lst ty size cap cs =>
  rcases ok with a | ⟨rfl, _, x⟩
  · exact .inl a
  · exact .inr ⟨rfl, hf rfl g ⟨zero_ne_nilS, rfl⟩, x⟩
 | mp ks vs => obtain ⟨rfl, _, x⟩ := ok; exact ⟨rfl, hf rfl g ⟨zero_ne_nilS, rfl⟩, x⟩
 | gv g0 o => exact ok
 | abs wr S Φ => obtain ⟨a, c, _, e⟩ := ok; exact ⟨a, c, fun hw k hk => hf hw k hk, e⟩
def keyed (h0 : HP) (L : IdMap) : Bool := L.all fun x => (lkH h0 x.1).isSome
theorem frame_core {args0 args : List Value} {h0 h : HP} {n0 n : Nat} (L : IdMap)
 (hok : okK 0 n0 L = true) (oki : okI 0 L h0 = true) (hky : keyed h0 L = true) (ha : LR (covR 0 L) args0 args) (hh : subH 0 L h h0)
 {F : Nat → Prop} {B : Nat} {w0 : World} {m : BM} {w : World} {cs : List Value} (H : HRel F B w0 m h n w) (hcs : LR (VR m) args cs) :
 ∃ F' : Nat → Prop, HRel F' w.heap.size w (m.via 0 L) h0 n0 w ∧ LR (VR (m.via 0 L)) args0 cs ∧ ∀ m1 v c h1 n1 w1 hN, (m.via 0 L).le m1 → VR m1 v c → HRel F' w.heap.size w m1 h1 n1 w1 → relH (bk L n) h1 hN →
  ∃ m2, m.le m2 ∧ VR m2 (renR (bk L n) v) c ∧ HRel F B w0 m2 (hN ++ dropM L h0 h) (n + n1) w1 := by
 have H0 : HRel F B w0 (m.via 0 L) h0 n0 w := H.sub hok oki hh
 have img0 : ∀ i, img 0 L i = lkL L i := fun i => rfl
 -- what a listed number stands for
 have listed : ∀ i b, lkL L i = some (some b) → ∃ it0 it, lkH h0 i = some it0 ∧ lkH h b = some it ∧ covI 0 L it0 it := by
  intro i b e
  have h1 := List.all_eq_true.1 hky _ (lkL_mem e)
  dsimp only at h1
  cases e0 : lkH h0 i with
  | none => rw [e0] at h1; cases h1
  | some it0 =>
   rcases subH_ok hh i it0 e0 with ⟨c, _⟩ | ⟨b', it, c, d, v⟩
   · rw [img0, e] at c; cases c
   · rw [img0, e] at c; cases c; exact ⟨it0, it, rfl, d, v⟩
 have blt : ∀ b it, lkH h b = some it → b < n := fun b it e => let ⟨_, _, x, _⟩ := H.dom b it e; H.fresh _ _ _ x
 have inj : ∀ i j, bk L n i = bk L n j → i = j := by
  intro i j e
  unfold bk at e
  split at e <;> split at e
  · rename_i b hb _ b' hb'
    obtain ⟨i0, it, x1, x2, _⟩ := listed i b hb
    obtain ⟨j0, jt, y1, y2, _⟩ := listed j b' hb'
    subst e
    exact Classical.byContradiction fun hij => okI_inj oki i i0 j j0 b x1 y1 hij hb hb'
  · rename_i b hb _ _
    obtain ⟨i0, it, _, x2, _⟩ := listed i b hb
    have := blt b it x2
    omega
  · rename_i b hb
    obtain ⟨i0, it, _, x2, _⟩ := listed j b hb
    have := blt b it x2
    omega
  · omega
 -- what the callee may write
 let F' : Nat → Prop := fun q => ∃ i it0 g s, lkH h0 i = some it0 ∧ it0.mine = true ∧ m.via 0 L i g s ∧ it0.blk g s q
 have mineOf : ∀ q, F' q → ∃ b it g s i, lkH h b = some it ∧ it.mine = true ∧ m b g s ∧ it.blk g s q ∧ lkL L i = some (some b) ∧ (∃ it0, lkH h0 i = some it0 ∧ it0.mine = true) := by
  rintro q ⟨i, it0, g, s, e, hm, hv, hq⟩
  unfold BM.via at hv
  rcases subH_ok hh i it0 e with ⟨c, hn⟩ | ⟨b, it, c, d, v⟩
  · rw [c] at hv; exact (nilI_blk hn hv.2 hq).elim
  · rw [c] at hv
    exact ⟨b, it, g, s, i, d, covI_mine v hm, hv, covI_blk v hq, c, it0, e, hm⟩
 have H0' : HRel F' w.heap.size w (m.via 0 L) h0 n0 w :=
  ⟨Keep.refl _ _ _, Nat.le_refl _, H0.fn, H0.fresh, fun i it0 e => let ⟨g, s, x, ok⟩ := H0.dom i it0 e; ⟨g, s, x, ok.refence fun hm b hb => .inr ⟨i, it0, g, s, e, hm, x, hb⟩⟩, H0.sep⟩
 have hargs : LR (VR (m.via 0 L)) args0 cs := LR.cov (R := covR 0 L) (S := VR m) (S' := VR (m.via 0 L)) (fun _ _ _ a b => covR_ok a b) ha hcs
 refine ⟨F', H0', hargs, fun m1 v c h1 n1 w1 hN hle hvc H1 hrel => ?_⟩
 let m2 : BM := fun j g s => m j g s ∨ (n ≤ j ∧ m1 (j - n) g s)
 have le2 : m.le m2 := fun i g s x => .inl x
 have hb : ∀ i g s, m1 i g s → m2 (bk L n i) g s := by
  intro i g s x
  unfold bk
  split
  · rename_i b hb
    obtain ⟨it0, it, x1, x2, _⟩ := listed i b hb
    obtain ⟨g', s', y, _⟩ := H.dom b it x2
    have hv : m.via 0 L i g' s' := by unfold BM.via; rw [img0, hb]; exact y
    obtain ⟨rfl, rfl⟩ := H1.fn _ _ _ _ _ x (hle _ _ _ hv)
    exact .inl y
  · exact .inr ⟨Nat.le_add_right n i, by rw [Nat.add_sub_cancel_left]; exact x⟩
 have back : ∀ i g s, m2 (bk L n i) g s → m1 i g s := by
  intro i g s x
  unfold bk at x
  split at x
  · rename_i b hb
    obtain ⟨it0, it, x1, x2, _⟩ := listed i b hb
    have := blt b it x2
    rcases x with x | ⟨x, _⟩
    · refine hle _ _ _ ?_
      unfold BM.via; rw [img0, hb]; exact x
    · omega
  · rcases x with x | ⟨_, x⟩
    · have := H.fresh _ _ _ x; omega
    · rwa [Nat.add_sub_cancel_left] at x
 have low : ∀ j jt g s, lkH h j = some jt → m2 j g s → m j g s := by
  intro j jt g s e x
  have := blt j jt e
  rcases x with x | ⟨x, _⟩
  · exact x
  · omega
 have fenceUp : ∀ g, w.heap.size ≤ g ∨ F' g → B ≤ g ∨ F g := by
  rintro g (hg | hg)
  · exact .inl (Nat.le_trans H.base' hg)
  · obtain ⟨b, it, g', s, i, e, hm, x, hq, _⟩ := mineOf g hg
    exact (H.at e x).fence hm hq
 have apart : ∀ i it g s j jt g2 s2 q, lkH h1 i = some it → it.mine = true → m1 i g s → it.blk g s q → lkH (dropM L h0 h) j = some jt → m j g2 s2 → ¬ jt.blk g2 s2 q := by
  intro i it g s j jt g2 s2 q e hm x hq ej y hq2
  obtain ⟨ej, hd⟩ := dropM_lk ej
  have hlt := (H.at ej y).lt hq2
  rcases (H1.at e x).fence hm hq with hg | hg
  · omega
  · obtain ⟨b, it, g', s', i', eb, hmb, xb, hsb, hl, it0, e0, hm0⟩ := mineOf q hg
    exact H.sep b it j jt g' s' g2 s2 q eb hmb ej (fun z => hd i' it0 e0 hm0 (by rw [hl, z])) xb y hsb hq2
 refine ⟨m2, le2, VR.ren hb hvc, ⟨?_, H.base, ?_, ?_, ?_, ?_⟩⟩
 · refine H.keep.trans ⟨H1.keep.os, H1.keep.tape, H1.keep.output, H1.keep.size, fun k hk hf => H1.keep.block k (Nat.lt_of_lt_of_le hk H.base') fun hg => ?_⟩
   rcases fenceUp k (.inr hg) with h | h
   · omega
   · exact hf h
 · rintro j g s g' s' (x | ⟨hx, x⟩) (y | ⟨hy, y⟩)
   · exact H.fn _ _ _ _ _ x y
   · have := H.fresh _ _ _ x; omega
   · have := H.fresh _ _ _ y; omega
   · exact H1.fn _ _ _ _ _ x y
 · rintro j g s (x | ⟨hx, x⟩)
   · have := H.fresh _ _ _ x; omega
   · have := H1.fresh _ _ _ x; omega
 · intro j jt e
   rcases lkH_append e with e | ⟨_, e⟩
   · obtain ⟨i, it, rfl, e1, hri⟩ := relH_lk inj hrel j jt e
     obtain ⟨g, s, x, ok⟩ := H1.dom i it e1
     exact ⟨g, s, hb _ _ _ x, relI_ok hb hri (fun q _ => fenceUp q) ok⟩
   · obtain ⟨ej, hd⟩ := dropM_lk e
     obtain ⟨g, s, x, ok⟩ := H.dom j jt ej
     refine ⟨g, s, .inl x, (ok.same H1.keep.size fun q hq hlt => H1.keep.block q hlt fun hg => ?_).mono le2⟩
     obtain ⟨b, it, g', s', i', eb, hmb, xb, hsb, hl, it0, e0, hm0⟩ := mineOf q hg
     exact H.sep b it j jt g' s' g s q eb hmb ej (fun z => hd i' it0 e0 hm0 (by rw [hl, z])) xb x hsb hq
 · intro i it j jt g s g' s' q e1 hm e2 hij x y hq1 hq2
   rcases lkH_append e1 with e1 | ⟨_, e1⟩
   · obtain ⟨i1, it1, rfl, d1, hr1⟩ := relH_lk inj hrel i it e1
     rcases lkH_append e2 with e2 | ⟨_, e2⟩
     · obtain ⟨j1, jt1, rfl, d2, hr2⟩ := relH_lk inj hrel j jt e2
       exact H1.sep i1 it1 j1 jt1 g s g' s' q d1 (relI_mine hr1).1 d2 (fun z => hij (by rw [z])) (back _ _ _ x) (back _ _ _ y) ((relI_blk hr1).1 hq1) ((relI_blk hr2).1 hq2)
     · exact apart i1 it1 g s j jt g' s' q d1 (relI_mine hr1).1 (back _ _ _ x) ((relI_blk hr1).1 hq1) e2 (low j jt g' s' (dropM_lk e2).1 y) hq2
   · have x' := low i it g s (dropM_lk e1).1 x
     rcases lkH_append e2 with e2 | ⟨_, e2⟩
     · obtain ⟨j1, jt1, rfl, d2, hr2⟩ := relH_lk inj hrel j jt e2
       exact apart j1 jt1 g' s' i it g s q d2 (relI_mine hr2).1 (back _ _ _ y) ((relI_blk hr2).1 hq2) e1 x' hq1
     · exact H.sep i it j jt g s g' s' q (dropM_lk e1).1 hm (dropM_lk e2).1 hij x' (low j jt g' s' (dropM_lk e2).1 y) hq1 hq2
theorem call_frame {P : Program} {f : FuncId} {args0 args : List Value} {h0 h : HP} {n0 n : Nat} {Post K : Value → HP → Nat → Prop} (C : CallOb P f args0 h0 n0 Post) (L : IdMap)
 (hok : okK 0 n0 L = true) (oki : okI 0 L h0 = true) (hky : keyed h0 L = true) (ha : LR (covR 0 L) args0 args) (hh : subH 0 L h h0)
 (hk : ∀ v h1 n1, Post v h1 n1 → ∃ v' hN, v' = renR (bk L n) v ∧ relH (bk L n) h1 hN ∧ K v' (hN ++ dropM L h0 h) (n + n1)) : CallOb P f args h n K := by
 refine ⟨C.fn, fun F B w0 m w cs H hcs => ?_⟩
 obtain ⟨F', H0', hargs, back⟩ := frame_core L hok oki hky ha hh H hcs
 refine (C.run F' w.heap.size w (m.via 0 L) w cs H0' hargs).mono ?_
 rintro e w1 ⟨m1, v, c, h1, n1, rfl, hle, hvc, H1, hp⟩
 obtain ⟨v', hN, rfl, hrel, hK⟩ := hk v h1 n1 hp
 obtain ⟨m2, l2, hv2, H2⟩ := back m1 v c h1 n1 w1 hN hle hvc H1 hrel
 exact ⟨m2, _, c, _, _, rfl, l2, hv2, H2, hK⟩
structure Fit (np : Nat) (v0 : Value) (H0 : HP) (n0 : Nat) (v : Value) (h : HP) (L : IdMap) : Prop where
 ok : okK np n0 L = true
 oki : okI np L H0 = true
 val : covR np L v0 v
 hp : subH np L h H0
theorem Fit.of {np : Nat} {v0 : Value} {H0 : HP} {n0 : Nat} {v : Value} {h : HP} {L : IdMap} (val : covR np L v0 v) (hp : subH np L h H0) (ok : okK np n0 L = true) (oki : okI np L H0 = true) : Fit np v0 H0 n0 v h L := ⟨ok, oki, val, hp⟩
theorem Fit.q {np : Nat} {v0 : Value} {H0 : HP} {n0 : Nat} {v : Value} {h : HP} {L : IdMap} (x : covR np L v0 v ∧ subH np L h H0) (ok : okK np n0 L = true) (oki : okI np L H0 = true) : Fit np v0 H0 n0 v h L := ⟨ok, oki, x.1, x.2⟩
theorem call_framed {P : Program} {f : FuncId} {args0 args : List Value} {h0 h : HP} {n0 n : Nat} {Post K : Value → HP → Nat → Prop} (C : CallOb P f args0 h0 n0 Post) (L : IdMap)
 (ha : LR (covR 0 L) args0 args) (hh : subH 0 L h h0) (hok : okK 0 n0 L = true) (oki : okI 0 L h0 = true) (hky : keyed h0 L = true)
 (hk : ∀ v h1 n1, Post v h1 n1 → ∃ v' hN, v' = renR (bk L n) v ∧ relH (bk L n) h1 hN ∧ K v' (hN ++ dropM L h0 h) (n + n1)) : CallOb P f args h n K := call_frame C L hok oki hky ha hh hk
inductive Ends {α : Type} (np : Nat) (R : α → Prop) (vT : α → Value) (HT : α → HP) (nT : α → Nat) (v : Value) (h : HP) : Prop
 | go (x : α) (hR : R x) (L : IdMap) (s : Fit np (vT x) (HT x) (nT x) v h L) : Ends np R vT HT nT v h
 | no (hx : False) : Ends np R vT HT nT v h
theorem call_spec {P : Program} {T : Tab} (hT : TabOk P T) (hmix : P.follows .mixedOrders = true) {f : FuncId} {fn : Func} (hok : FnOk P f) (hf : P.funcs[f]? = some fn) (hb : fn.body.isSome = true) (pl : Plans)
 {args : List Value} {h : HP} {n : Nat} {α : Type} (R : α → Prop) (vT : α → Value) (HT : α → HP) (nT : α → Nat) (hN : args.length ≤ fn.ntmps)
 (hv : vc P T fn.ntmps n pl (bodyOf fn) (retK T fn.results.toList fun v h' _ => Ends n R vT HT nT v h') (zipT 0 args) h n) :
 CallOb P f args h n (fun v h' n' => ∃ x, R x ∧ v = vT x ∧ h' = HT x ∧ n' = nT x) :=
 ⟨hok, fun F B w0 m w cs H ha => (calls_vc hT hmix hf hb pl H ha n hN hv).mono fun e w' ⟨m', v, c, h', n', he, hm, hvc, H', hE⟩ => by
  cases hE with
  | no h => exact h.elim
  | go x hR L ft =>
  exact ⟨m'.via n L, vT x, c, HT x, nT x, he, BM.le_of_leN H (BM.leN_trans hm (via_leN m' n L)), covR_ok ft.val hvc, H'.sub ft.ok ft.oki ft.hp, x, hR, rfl, rfl, rfl⟩⟩
theorem cell_at1 {α : Type} {l : List α} {f : α → Value} {i : Nat} {x : α} {K : Value → Prop} (h : l[i]? = some x) (hk : K (f x)) : onS (l.map f)[0 + i * 1]? K := by
 rw [Nat.zero_add, Nat.mul_one, List.getElem?_map, h]
 exact hk
theorem cell_in1 {α : Type} {l : List α} {f : α → Value} {i : Nat} {K : Value → Prop} (hi : i < l.length) (hk : ∀ x, l[i]? = some x → K (f x)) : onS (l.map f)[0 + i * 1]? K := by
 rw [Nat.zero_add, Nat.mul_one, List.getElem?_map, List.getElem?_eq_getElem hi]
 exact hk _ (List.getElem?_eq_getElem hi)
end Go.Proofs.YtelolcagncgfpaaGreat
