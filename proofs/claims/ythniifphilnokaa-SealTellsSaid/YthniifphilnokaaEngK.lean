/- A generator of conditions for a walk, part 11: code; loops; functions. No program in sight. -/
import Derived.Test.YthniifphilnokaaEngJ
namespace Go.Proofs.Ythniifphilnokaa
open Go.RowKit
set_option linter.unusedSimpArgs false
set_option linter.unusedVariables false

abbrev KT := Exit → TM → HP → Nat → Prop
abbrev Plans := List (Nat × List (Nat × Bool))
def lkP : Plans → Nat → Option (List (Nat × Bool))
  | [], _ => none
  | (j, x) :: r, i => bif Nat.beq j i then some x else lkP r i
def noPan : Exit → Bool | .panic _ => false | _ => true
/-- Where a piece of code comes to, in what the states stand for. -/
def QK (fl : Bool) (m0 : BM) (F : Nat → Prop) (B : Nat) (w0 : World) (N : Nat) (K : KT) : Exit → Act → World → Prop :=
  fun e a w => noPan e = true ∧ ∃ m t h n, (fl = true → m0.le m) ∧ HRel F B w0 m h n w ∧ TRel m N t a ∧ K e t h n
theorem QK.mono {fl : Bool} {m0 m1 : BM} {F : Nat → Prop} {B : Nat} {w0 : World} {N : Nat} {K : KT} (hm : fl = true → m0.le m1) {e : Exit} {a : Act} {w : World} (h : QK fl m1 F B w0 N K e a w) : QK fl m0 F B w0 N K e a w :=
  let ⟨h0, m, t, hp, n, h1, h2⟩ := h; ⟨h0, m, t, hp, n, fun e => BM.le_trans (hm e) (h1 e), h2⟩
/-- What is owed at a loop. -/
structure LoopOb (P : Program) (N : Nat) (c : Code) (K : KT) (t : TM) (h : HP) (n : Nat) : Prop where
  run : ∀ F B w0 m w a, HRel F B w0 m h n w → TRel m N t a → (Code.loop c).wp P (QK false m F B w0 N K) a w
def setB (t : TM) (c : Operand) (b : Bool) : TM := match c with | .tmp d => (d, .bool b) :: t | _ => t
def planChk (ops : List Oper) (plan : List (Nat × Bool)) : Bool :=
  Region.noSelect ops.toArray && (plan.length == ops.length) && planB ops.toArray plan (Array.replicate ops.toArray.size false)
def vc (P : Program) (T : Tab) (N : Nat) (pl : Plans) : Code → KT → TM → HP → Nat → Prop := fun c =>
  Code.rec (motive := fun _ => KT → TM → HP → Nat → Prop)
    (fun K t h n => K .normal t h n)
    (fun id ops draw K t h n => match draw with
      | false => vcOps P T N ops.toList ops.toList t h n (K .normal)
      | true => onS (lkP pl id) fun plan => planChk ops.toList plan = true ∧ vcPlan P T N ops.toList h (planOps ops.toList plan) t h n (K .normal))
    (fun _ _ ix iy K t h n => ix (fun e t h n => match e with | .normal => iy K t h n | e => K e t h n) t h n)
    (fun c _ _ ix iy K t h n => onS (ev t c) fun v => match v with
      | .bool b => ifB b (ix K (setB t c true) h n) (iy K (setB t c false) h n)
      | _ => False)
    (fun id _ ic K t h n => ic (fun e t h n => match e with | .exit j => (match Nat.beq j id with | true => K .normal t h n | false => K (.exit j) t h n) | e => K e t h n) t h n)
    (fun c _ K t h n => LoopOb P N c K t h n)
    (fun _ _ _ _ _ _ _ _ _ _ => False)
    (fun id K t h n => K (.exit id) t h n)
    (fun _ _ _ _ _ _ => False)
    (fun _ K t h n => K .normal t h n)
    (fun _ _ _ _ _ => False)
    (fun K t h n => K .ret t h n)
    (fun _ _ _ _ _ => False) c
def noLoop : Code → Bool
  | .seq x y => noLoop x && noLoop y
  | .cond _ x y => noLoop x && noLoop y
  | .block _ c => noLoop c
  | .loop _ => false
  | _ => true
theorem TRel.setB {m : BM} {N : Nat} {t : TM} {a : Act} (ht : TRel m N t a) {c : Operand} {b b' : Bool} (e : ev t c = some (.bool b)) (hb : b = b') : TRel m N (Go.Proofs.Ythniifphilnokaa.setB t c b') a := by
  cases c with
  | tmp d => exact ht.learn e hb
  | const v => exact ht
  | global g => exact ht
  | func f => exact ht
theorem vc_ok {P : Program} {T : Tab} (hT : TabOk P T) (hmix : P.follows .mixedOrders = true) {N : Nat} {pl : Plans} : ∀ {c : Code} {K : KT} {t : TM} {h : HP} {n : Nat}, vc P T N pl c K t h n →
    ∀ fl, (fl = true → noLoop c = true) → ∀ F B w0 m w a, HRel F B w0 m h n w → TRel m N t a → c.wp P (QK fl m F B w0 N K) a w := by
  intro c
  induction c with
  | skip => intro K t h n hv fl hfl F B w0 m w a H ht; exact wp_skip ⟨rfl, m, t, h, n, fun _ => BM.le_refl m, H, ht, hv⟩
  | label l => intro K t h n hv fl hfl F B w0 m w a H ht; exact wp_label ⟨rfl, m, t, h, n, fun _ => BM.le_refl m, H, ht, hv⟩
  | exit id => intro K t h n hv fl hfl F B w0 m w a H ht; exact wp_exit ⟨rfl, m, t, h, n, fun _ => BM.le_refl m, H, ht, hv⟩
  | ret => intro K t h n hv fl hfl F B w0 m w a H ht; exact wp_ret ⟨rfl, m, t, h, n, fun _ => BM.le_refl m, H, ht, hv⟩
  | region id ops draw =>
    intro K t h n hv fl hfl F B w0 m w a H ht
    cases draw with
    | false =>
      exact wp_region_list (vcOps_ok hT hv F B w0 m w a _ H ht fun m' t' h' n' a' w' hm H' ht' hk => ⟨rfl, m', t', h', n', fun _ => hm, H', ht', hk⟩)
    | true =>
      obtain ⟨plan, hp, hchk, h2⟩ := onS_ok hv
      have H' := H.later (Below.drew' w)
      have e : ops = ops.toList.toArray := by simp
      rw [e]
      refine wp_region_plan (fun w' => HRel F B w0 m h n w') plan hmix hchk (fun c a t v w hq => ?_) H' ?_
      · cases hq.1
      · have := vcPlan_ok (ops := ops) hT H' h2 m w.drew a (QK fl m F B w0 N K) (BM.le_refl m) H' H' ht fun m' t' h' n' a' w' hm H' ht' hk => ⟨rfl, m', t', h', n', fun _ => hm, H', ht', hk⟩
        exact this
  | seq x y ihx ihy =>
    intro K t h n hv fl hfl F B w0 m w a H ht
    have hfx : fl = true → noLoop x = true := fun e => by have := hfl e; simp [noLoop] at this; exact this.1
    have hfy : fl = true → noLoop y = true := fun e => by have := hfl e; simp [noLoop] at this; exact this.2
    refine wp_seq (wp_mono (ihx hv fl hfx F B w0 m w a H ht) fun e a' w' hq => ?_)
    obtain ⟨hn, m', t', h', n', hm, H', ht', hk⟩ := hq
    cases e with
    | normal => exact wp_mono (ihy hk fl hfy F B w0 m' w' a' H' ht') fun e a2 w2 hq => QK.mono hm hq
    | exit id => exact ⟨rfl, m', t', h', n', hm, H', ht', hk⟩
    | goto l => exact ⟨rfl, m', t', h', n', hm, H', ht', hk⟩
    | ret => exact ⟨rfl, m', t', h', n', hm, H', ht', hk⟩
    | panic ch => cases hn
    | outgrown => exact ⟨rfl, m', t', h', n', hm, H', ht', hk⟩
  | cond c x y ihx ihy =>
    intro K t h n hv fl hfl F B w0 m w a H ht
    have hfx : fl = true → noLoop x = true := fun e => by have := hfl e; simp [noLoop] at this; exact this.1
    have hfy : fl = true → noLoop y = true := fun e => by have := hfl e; simp [noLoop] at this; exact this.2
    obtain ⟨v, hev, h2⟩ := onS_ok hv
    cases v <;> first | exact h2.elim | skip
    rename_i b
    replace h2 := ifB_ok h2
    have hc := (ev_ok hev ht).bool
    cases b with
    | true => exact wp_cond_true hc (ihx (h2.1 rfl) fl hfx F B w0 m w a H (ht.setB hev rfl))
    | false => exact wp_cond_false hc (ihy (h2.2 rfl) fl hfy F B w0 m w a H (ht.setB hev rfl))
  | block id c ih =>
    intro K t h n hv fl hfl F B w0 m w a H ht
    refine wp_block (wp_mono (ih hv fl (fun e => by have := hfl e; simpa [noLoop] using this) F B w0 m w a H ht) fun e a' w' hq => ?_)
    obtain ⟨hn, m', t', h', n', hm, H', ht', hk⟩ := hq
    cases e with
    | exit j =>
      show (if j = id then _ else _)
      cases hb : Nat.beq j id with
      | true =>
        dsimp only at hk
        rw [hb] at hk
        rw [if_pos (Nat.eq_of_beq_eq_true hb)]
        exact ⟨rfl, m', t', h', n', hm, H', ht', hk⟩
      | false =>
        dsimp only at hk
        rw [hb] at hk
        rw [if_neg (fun x => by subst x; rw [beq_refl'] at hb; cases hb)]
        exact ⟨rfl, m', t', h', n', hm, H', ht', hk⟩
    | normal => exact ⟨rfl, m', t', h', n', hm, H', ht', hk⟩
    | goto l => exact ⟨rfl, m', t', h', n', hm, H', ht', hk⟩
    | ret => exact ⟨rfl, m', t', h', n', hm, H', ht', hk⟩
    | panic ch => cases hn
    | outgrown => exact ⟨rfl, m', t', h', n', hm, H', ht', hk⟩
  | loop c ih =>
    intro K t h n hv fl hfl F B w0 m w a H ht
    cases fl with
    | true => have := hfl rfl; cases this
    | false => exact hv.run F B w0 m w a H ht
  | rangeFunc f ps x y => intro K t h n hv; exact hv.elim
  | scope c => intro K t h n hv; exact hv.elim
  | goto l => intro K t h n hv; exact hv.elim
  | refuse why => intro K t h n hv; exact hv.elim

/-! ### Numbers of blocks anew: at the head of a loop -/
def rn (L : List (Nat × Nat)) (n : Nat) (i : Nat) : Nat := match L with | [] => n | (a, b) :: r => bif Nat.beq a i then b else rn r n i
def ren0 (r : Nat → Nat) (v : Value) : Value := match ref0 v with | none => v | some (a, f) => f ⟨r a.block, a.off, a.spot⟩
def ren1 (r : Nat → Nat) (v : Value) : Value := match parts1 v with | none => ren0 r v | some (l, f) => f (l.map (ren0 r))
def renR (r : Nat → Nat) (v : Value) : Value := match tup v with | none => ren1 r v | some l => .tuple (l.map (ren1 r)).toArray
def renI (r : Nat → Nat) : Itm → Itm
  | .own ty cs => .own ty (cs.map (ren1 r))
  | .view cs => .view (cs.map (ren1 r))
  | .row ty size cap cs => .row ty size cap (cs.map (ren1 r))
theorem ref0_self {v : Value} {a : Addr} {f : Addr → Value} (h : ref0 v = some (a, f)) (b : Addr) : ref0 (f b) = some (b, f) := by
  unfold ref0 at h
  split at h
  · simp at h; obtain ⟨rfl, rfl⟩ := h; rfl
  · simp at h; obtain ⟨rfl, rfl⟩ := h; rfl
  · simp at h; obtain ⟨rfl, rfl⟩ := h; rfl
  · cases h
def BM.via (m : BM) (r : Nat → Nat) : BM := fun i g s => m (r i) g s
theorem V0.ren {m : BM} {r : Nat → Nat} {v c : Value} (h : V0 m (ren0 r v) c) : V0 (m.via r) v c := by
  unfold ren0 at h
  cases e : ref0 v with
  | none => rw [e] at h; unfold V0 at h ⊢; rw [e] at h ⊢; exact h
  | some x =>
    obtain ⟨a, f⟩ := x
    rw [e] at h
    unfold V0 at h ⊢
    dsimp only at h
    rw [ref0_self e] at h
    rw [e]
    obtain ⟨b, ⟨hs, g, s, hm, rfl⟩, hc⟩ := h
    exact ⟨_, ⟨hs, g, s, hm, rfl⟩, hc⟩
theorem LR.map {R R' : Value → Value → Prop} {f : Value → Value} (h : ∀ v c, R (f v) c → R' v c) : ∀ {l l' : List Value}, LR R (l.map f) l' → LR R' l l'
  | [], [], _ => trivial
  | _ :: _, _ :: _, x => ⟨h _ _ x.1, LR.map h x.2⟩
theorem parts1_ref {v : Value} {l : List Value} {f : List Value → Value} (h : parts1 v = some (l, f)) (l' : List Value) : parts1 (f l') = some (l', f) := by
  unfold parts1 at h
  split at h
  · simp at h; obtain ⟨rfl, rfl⟩ := h; rfl
  · simp at h; obtain ⟨rfl, rfl⟩ := h; rfl
  · cases h
theorem parts1_ren0 {r : Nat → Nat} {v : Value} (h : parts1 v = none) : parts1 (ren0 r v) = none := by
  unfold ren0
  cases e : ref0 v with
  | none => exact h
  | some x =>
    obtain ⟨a, f⟩ := x
    unfold ref0 at e
    split at e
    · simp at e; obtain ⟨rfl, rfl⟩ := e; rfl
    · simp at e; obtain ⟨rfl, rfl⟩ := e; rfl
    · simp at e; obtain ⟨rfl, rfl⟩ := e; rfl
    · cases e
theorem V1.ren {m : BM} {r : Nat → Nat} {v c : Value} (h : V1 m (ren1 r v) c) : V1 (m.via r) v c := by
  unfold ren1 at h
  cases e : parts1 v with
  | none =>
    rw [e] at h
    unfold V1 at h ⊢
    dsimp only at h
    rw [parts1_ren0 e] at h
    rw [e]
    exact V0.ren h
  | some x =>
    obtain ⟨l, f⟩ := x
    rw [e] at h
    unfold V1 at h ⊢
    dsimp only at h
    rw [parts1_ref e] at h
    rw [e]
    obtain ⟨l', hl, hc⟩ := h
    exact ⟨l', LR.map (fun _ _ => V0.ren) hl, hc⟩
theorem tup_ren1 {r : Nat → Nat} {v : Value} (h : tup v = none) : tup (ren1 r v) = none := by
  unfold ren1
  cases e : parts1 v with
  | none =>
    dsimp only
    unfold ren0
    cases e2 : ref0 v with
    | none => exact h
    | some x =>
      obtain ⟨a, f⟩ := x
      unfold ref0 at e2
      split at e2
      · simp at e2; obtain ⟨rfl, rfl⟩ := e2; rfl
      · simp at e2; obtain ⟨rfl, rfl⟩ := e2; rfl
      · simp at e2; obtain ⟨rfl, rfl⟩ := e2; rfl
      · cases e2
  | some x =>
    obtain ⟨l, f⟩ := x
    unfold parts1 at e
    split at e
    · simp at e; obtain ⟨rfl, rfl⟩ := e; rfl
    · simp at e; obtain ⟨rfl, rfl⟩ := e; rfl
    · cases e
theorem VR.ren {m : BM} {r : Nat → Nat} {v c : Value} (h : VR m (renR r v) c) : VR (m.via r) v c := by
  unfold renR at h
  cases e : Go.Proofs.Ythniifphilnokaa.tup v with
  | none =>
    rw [e] at h
    unfold VR at h ⊢
    dsimp only at h
    rw [tup_ren1 e] at h
    rw [e]
    exact V1.ren h
  | some l =>
    rw [e] at h
    unfold VR at h ⊢
    rw [e]
    obtain ⟨l', hl, hc⟩ := h
    exact ⟨l', LR.map (fun _ _ => V1.ren) hl, hc⟩
theorem ItmOk.ren {F : Nat → Prop} {B : Nat} {m : BM} {r : Nat → Nat} {w : World} {g s : Nat} : ∀ {it : Itm}, ItmOk F B m w g s (renI r it) → ItmOk F B (m.via r) w g s it
  | .own _ _, ⟨a, b, l, x, y⟩ => ⟨a, b, l, LR.map (fun _ _ => V1.ren) x, y⟩
  | .view _, ⟨a, l, x, y⟩ => ⟨a, l, LR.map (fun _ _ => V1.ren) x, y⟩
  | .row .., ⟨a, b, c, l, cur, x, y⟩ => ⟨a, b, c, l, cur, LR.map (fun _ _ => V1.ren) x, y⟩
/-- Every slot of the head stands so now. -/
def subT (L : List (Nat × Nat)) (n : Nat) (t : TM) : TM → Prop
  | [] => True
  | (k, v) :: r => lkT t k = some (renR (rn L n) v) ∧ subT L n t r
def subH (L : List (Nat × Nat)) (n : Nat) (h : HP) : HP → Prop
  | [] => True
  | (i, it) :: r => lkH h (rn L n i) = some (renI (rn L n) it) ∧ subH L n h r
/-- Numbers below n0, to unlike ones. -/
def okL (n0 : Nat) : List (Nat × Nat) → Bool
  | [] => true
  | (a, b) :: r => Nat.blt a n0 && !(r.any fun x => Nat.beq x.1 a || Nat.beq x.2 b) && okL n0 r
structure Sub (T0 : TM) (H0 : HP) (n0 : Nat) (t : TM) (h : HP) (n : Nat) (L : List (Nat × Nat)) : Prop where
  ok : okL n0 L = true
  tm : subT L n t T0
  hp : subH L n h H0
theorem subT_ok {L : List (Nat × Nat)} {n : Nat} {t : TM} : ∀ {T0 : TM}, subT L n t T0 → ∀ k v, lkT T0 k = some v → lkT t k = some (renR (rn L n) v)
  | [], _, k, v, e => by cases e
  | (j, x) :: r, ⟨h1, h2⟩, k, v, e => by
    by_cases hj : j = k
    · subst hj
      have : v = x := by simpa [lkT] using e.symm
      subst this; exact h1
    · unfold lkT at e; rw [beq_no hj] at e; exact subT_ok h2 k v e
theorem subH_ok {L : List (Nat × Nat)} {n : Nat} {h : HP} : ∀ {H0 : HP}, subH L n h H0 → ∀ k v, lkH H0 k = some v → lkH h (rn L n k) = some (renI (rn L n) v)
  | [], _, k, v, e => by cases e
  | (j, x) :: r, ⟨h1, h2⟩, k, v, e => by
    by_cases hj : j = k
    · subst hj
      have : v = x := by simpa [lkH] using e.symm
      subst this; exact h1
    · unfold lkH at e; rw [beq_no hj] at e; exact subH_ok h2 k v e
theorem rn_cases : ∀ (L : List (Nat × Nat)) (n i : Nat), rn L n i = n ∨ (i, rn L n i) ∈ L
  | [], n, i => .inl rfl
  | (a, b) :: r, n, i => by
    unfold rn
    cases hb : Nat.beq a i with
    | true => have := Nat.eq_of_beq_eq_true hb; subst this; right; simp
    | false =>
      rcases rn_cases r n i with h | h
      · left; simpa using h
      · right; simp only [cond_false]; exact List.mem_cons_of_mem _ h
theorem okL_lt {n0 : Nat} : ∀ {L : List (Nat × Nat)}, okL n0 L = true → ∀ x ∈ L, x.1 < n0
  | (a, b) :: r, h, x, hx => by
    simp only [okL, Bool.and_eq_true] at h
    cases hx with
    | head => exact Nat.le_of_ble_eq_true h.1.1
    | tail _ hx => exact okL_lt h.2 x hx
theorem okL_inj {n0 : Nat} : ∀ {L : List (Nat × Nat)}, okL n0 L = true → ∀ x ∈ L, ∀ y ∈ L, x.2 = y.2 → x.1 = y.1
  | (a, b) :: r, h, x, hx, y, hy, e => by
    simp only [okL, Bool.and_eq_true, Bool.not_eq_true', List.any_eq_false] at h
    obtain ⟨⟨_, h2⟩, h3⟩ := h
    cases hx with
    | head =>
      cases hy with
      | head => rfl
      | tail _ hy =>
        have := h2 y hy
        rw [show Nat.beq y.2 b = true from by rw [← e]; exact beq_refl' _] at this
        simp at this
    | tail _ hx =>
      cases hy with
      | head =>
        have := h2 x hx
        rw [show Nat.beq x.2 b = true from by rw [e]; exact beq_refl' _] at this
        simp at this
      | tail _ hy => exact okL_inj h3 x hx y hy e
theorem Itm.mine_ren (r : Nat → Nat) (it : Itm) : (renI r it).mine = it.mine := by cases it <;> rfl
theorem HRel.sub {F : Nat → Prop} {B : Nat} {w0 : World} {m : BM} {h H0 : HP} {n n0 : Nat} {t T0 : TM} {w : World} {L : List (Nat × Nat)} (H : HRel F B w0 m h n w) (s : Sub T0 H0 n0 t h n L) : HRel F B w0 (m.via (rn L n)) H0 n0 w := by
  have none : ∀ g s', ¬ m n g s' := fun g s' x => by have := H.fresh _ _ _ x; omega
  refine ⟨H.keep, H.base, fun i g s g' s' x y => H.fn _ _ _ _ _ x y, fun i g s' x => ?_, fun i it e => ?_, ?_⟩
  · rcases rn_cases L n i with h | h
    · unfold BM.via at x; rw [h] at x; exact absurd x (none _ _)
    · exact okL_lt s.ok _ h
  · obtain ⟨g, s', x, y⟩ := H.dom _ _ (subH_ok s.hp i it e)
    exact ⟨g, s', x, y.ren⟩
  · intro i it j jt g s1 s2 e1 hm e2 hij x y
    refine H.sep _ _ _ _ g s1 s2 (subH_ok s.hp i it e1) (by rw [Itm.mine_ren]; exact hm) (subH_ok s.hp j jt e2) (fun z => ?_) x y
    rcases rn_cases L n i with h1 | h1
    · unfold BM.via at x; rw [h1] at x; exact none _ _ x
    · rcases rn_cases L n j with h2 | h2
      · unfold BM.via at y; rw [h2] at y; exact none _ _ y
      · exact hij (okL_inj s.ok _ h1 _ h2 z)
theorem TRel.sub {m : BM} {N : Nat} {t T0 : TM} {h H0 : HP} {n n0 : Nat} {a : Act} {L : List (Nat × Nat)} (ht : TRel m N t a) (s : Sub T0 H0 n0 t h n L) : TRel (m.via (rn L n)) N T0 a :=
  ⟨ht.size, ht.defers, fun i v e => let ⟨c, x, y⟩ := ht.get i _ (subT_ok s.tm i v e); ⟨c, x, y.ren⟩⟩
theorem wp_loop_ghost {P : Program} {Q : Exit → Act → World → Prop} {c : Code} {ι : Type} (I : ι → Act → World → Prop) (μ : ι → Nat)
    (round : ∀ i a w, I i a w → c.wp P (Exit.then (fun a' w' => ∃ i', I i' a' w' ∧ μ i' < μ i) Q) a w) {i0 : ι} {a : Act} {w : World} (h0 : I i0 a w) : (Code.loop c).wp P Q a w := by
  intro b k cs
  have key : ∀ n i a w, μ i = n → I i a w →
      ∃ e a' w', Q e a' w' ∧ Arrives P (lone (b.at a (.code c :: .inLoop c :: k)) cs w) b k cs e a' w' := by
    intro n
    induction n using Nat.strongRecOn with
    | _ n ih =>
      intro i a w hn hI
      obtain ⟨e, a₁, w₁, hq, harr⟩ := round i a w hI b (.inLoop c :: k) cs
      cases e with
      | normal =>
        obtain ⟨i', hI₁, hlt⟩ := hq
        obtain ⟨e₂, a₂, w₂, hq₂, harr₂⟩ := ih (μ i') (hn ▸ hlt) i' a₁ w₁ rfl hI₁
        exact ⟨e₂, a₂, w₂, hq₂, .of_steps (Steps.trans harr (.one step_inLoop)) harr₂⟩
      | exit id => exact ⟨_, a₁, w₁, hq, .pass (x := .inLoop c) rfl (fun _ _ => .inl (by simp)) harr⟩
      | goto l => exact ⟨_, a₁, w₁, hq, .pass (x := .inLoop c) rfl (fun _ _ => .inl (by simp)) harr⟩
      | ret => exact ⟨_, a₁, w₁, hq, .pass (x := .inLoop c) rfl (fun _ _ => .inl (by simp)) harr⟩
      | panic ch => exact ⟨_, a₁, w₁, hq, .pass (x := .inLoop c) rfl (fun _ _ => .inl (by simp)) harr⟩
      | outgrown => exact ⟨_, a₁, w₁, hq, .pass (x := .inLoop c) rfl (fun _ _ => .inl (by simp)) harr⟩
  obtain ⟨e, a', w', hq, harr⟩ := key _ i0 a w rfl h0
  exact ⟨e, a', w', hq, .of_steps (.one step_loop) harr⟩
/-- A LOOP: what holds at its head, by what it hangs on; a measure. -/
theorem loop_rule {P : Program} {T : Tab} (hT : TabOk P T) (hmix : P.follows .mixedOrders = true) {N : Nat} (pl : Plans) {c : Code} {K : KT} {t : TM} {h : HP} {n : Nat}
    {ι : Type} (n0 : Nat) (I : ι → TM) (J : ι → HP) (μ : ι → Nat) (i0 : ι) (hs : ∃ L, Sub (I i0) (J i0) n0 t h n L)
    (round : ∀ i, vc P T N pl c (fun e t' h' n' => match e with | .normal => ∃ i', μ i' < μ i ∧ ∃ L, Sub (I i') (J i') n0 t' h' n' L | e => K e t' h' n') (I i) (J i) n0) : LoopOb P N c K t h n := by
  refine ⟨fun F B w0 m w a H ht => ?_⟩
  obtain ⟨L, s⟩ := hs
  refine wp_loop_ghost (fun i a w => ∃ m, HRel F B w0 m (J i) n0 w ∧ TRel m N (I i) a) μ (fun i a w hI => ?_) (i0 := i0) ⟨_, H.sub s, ht.sub s⟩
  obtain ⟨m1, H1, ht1⟩ := hI
  refine wp_mono (vc_ok hT hmix (round i) false (fun e => by cases e) F B w0 m1 w a H1 ht1) fun e a' w' hq => ?_
  obtain ⟨hn, m', t', h', n', _, H', ht', hK⟩ := hq
  cases e with
  | normal =>
    obtain ⟨i', hlt, L', s'⟩ := hK
    exact ⟨i', ⟨_, H'.sub s', ht'.sub s'⟩, hlt⟩
  | exit id => exact ⟨rfl, m', t', h', n', fun e => (by cases e), H', ht', hK⟩
  | goto l => exact ⟨rfl, m', t', h', n', fun e => (by cases e), H', ht', hK⟩
  | ret => exact ⟨rfl, m', t', h', n', fun e => (by cases e), H', ht', hK⟩
  | panic ch => cases hn
  | outgrown => exact ⟨rfl, m', t', h', n', fun e => (by cases e), H', ht', hK⟩

/-- A loop of at most k rounds, round by round. -/
def loopN (P : Program) (T : Tab) (N : Nat) (pl : Plans) (c : Code) (K : KT) : Nat → TM → HP → Nat → Prop := fun k =>
  Nat.rec (motive := fun _ => TM → HP → Nat → Prop) (fun _ _ _ => False)
    (fun _ ih t h n => vc P T N pl c (fun e t h n => match e with | .normal => ih t h n | e => K e t h n) t h n) k
theorem loop_fuel {P : Program} {T : Tab} (hT : TabOk P T) (hmix : P.follows .mixedOrders = true) {N : Nat} (pl : Plans) {c : Code} {K : KT} {t : TM} {h : HP} {n : Nat} (k : Nat) (hv : loopN P T N pl c K k t h n) : LoopOb P N c K t h n := by
  refine ⟨fun F B w0 m w a H ht => ?_⟩
  refine wp_loop_ghost (ι := Nat × TM × HP × Nat) (fun i a w => loopN P T N pl c K i.1 i.2.1 i.2.2.1 i.2.2.2 ∧ ∃ m, HRel F B w0 m i.2.2.1 i.2.2.2 w ∧ TRel m N i.2.1 a) (fun i => i.1) (fun i a w hI => ?_) (i0 := (k, t, h, n)) ⟨hv, _, H, ht⟩
  obtain ⟨k, t, h, n⟩ := i
  obtain ⟨hv, m1, H1, ht1⟩ := hI
  dsimp only at hv H1 ht1
  cases k with
  | zero => exact hv.elim
  | succ k =>
    refine wp_mono (vc_ok hT hmix hv false (fun e => by cases e) F B w0 m1 w a H1 ht1) fun e a' w' hq => ?_
    obtain ⟨hn, m', t', h', n', _, H', ht', hK⟩ := hq
    cases e with
    | normal => exact ⟨(k, t', h', n'), ⟨hK, _, H', ht'⟩, Nat.lt_succ_self k⟩
    | exit id => exact ⟨rfl, m', t', h', n', fun e => (by cases e), H', ht', hK⟩
    | goto l => exact ⟨rfl, m', t', h', n', fun e => (by cases e), H', ht', hK⟩
    | ret => exact ⟨rfl, m', t', h', n', fun e => (by cases e), H', ht', hK⟩
    | panic ch => cases hn
    | outgrown => exact ⟨rfl, m', t', h', n', fun e => (by cases e), H', ht', hK⟩

/-! ### Functions -/
def resV (T : Tab) (t : TM) (h : HP) : List ResultVar → (List Value → Prop) → Prop
  | [], K => K []
  | .tmp i :: r, K => onS (lkT t i) fun v => match noTup v with | true => resV T t h r fun vs => K (v :: vs) | false => False
  | .cell i ty :: r, K => onS (lkT t i) fun p => vcLoad T h ty p fun v => resV T t h r fun vs => K (v :: vs)
def packV : List Value → Value
  | [v] => v
  | vs => .tuple vs.toArray
/-- What a function hands back. -/
def retK (T : Tab) (rs : List ResultVar) (Post : Value → HP → Nat → Prop) : KT := fun e t h n =>
  match e with
  | .normal => resV T t h rs fun vs => Post (packV vs) h n
  | .ret => resV T t h rs fun vs => Post (packV vs) h n
  | _ => False
theorem resV_ok {P : Program} {T : Tab} (hT : TabOk P T) {t : TM} {h : HP} : ∀ {rs : List ResultVar} {K : List Value → Prop}, resV T t h rs K → ∀ {F : Nat → Prop} {B : Nat} {w0 : World} {m : BM} {n N : Nat} {w : World} {a : Act},
    HRel F B w0 m h n w → TRel m N t a → ∃ vs cs, K vs ∧ LR (V1 m) vs cs ∧ (∀ v ∈ vs, noTup v = true) ∧ (rs.mapM (fun | .tmp t => pure (a.tmps.getD t undef) | .cell b ty => do loadVar ty (← asAddr (a.tmps.getD b undef))) : Sem (List Value)).run P w = .ok cs w
  | [], K, hv, F, B, w0, m, n, N, w, a, H, ht => ⟨[], [], hv, trivial, fun v hv => (by cases hv), by simp⟩
  | .tmp i :: r, K, hv, F, B, w0, m, n, N, w, a, H, ht => by
    obtain ⟨v, hv1, h2⟩ := onS_ok hv
    split at h2
    · rename_i hn
      obtain ⟨vs, cs, hk, hl, hlen, hr⟩ := resV_ok hT h2 H ht
      obtain ⟨c, hc, hvc⟩ := ht.get i v hv1
      refine ⟨v :: vs, c :: cs, hk, ⟨(VR.of1 hn).1 hvc, hl⟩, fun x hx => (by cases hx with | head => exact hn | tail _ hx => exact hlen x hx), ?_⟩
      rw [List.mapM_cons]
      simp only [Sem.run_bind, Sem.run_pure, Result.andThen_ok, hr]
      simp [Array.getD_eq_getD_getElem?, hc]
    · exact h2.elim
  | .cell i ty :: r, K, hv, F, B, w0, m, n, N, w, a, H, ht => by
    obtain ⟨p, hp, h2⟩ := onS_ok hv
    obtain ⟨u, hk, hn, hu⟩ := vcLoad_ok hT h2
    obtain ⟨vs, cs, hk, hl, hlen, hr⟩ := resV_ok hT hk H ht
    obtain ⟨c, hc, hvc⟩ := ht.get i p hp
    obtain ⟨d, hd, hrun⟩ := hu F B w0 m n w c H hvc
    refine ⟨u :: vs, d :: cs, hk, ⟨(VR.of1 hn).1 hd, hl⟩, fun x hx => (by cases hx with | head => exact hn | tail _ hx => exact hlen x hx), ?_⟩
    have hc' : a.tmps.getD i undef = c := by simp [Array.getD_eq_getD_getElem?, hc]
    have hload : (asAddr c >>= fun a => loadVar ty a).run P w = .ok d w := by
      unfold vcLoad at h2
      split at h2
      · obtain ⟨b, _, rfl⟩ := hvc.ptr
        simpa [Instr.loadAt, Instr.sureAddr, asAddr] using hrun
      · exact h2.elim
    rw [List.mapM_cons]
    simp only [Sem.run_bind] at hload ⊢
    rw [hc', hload]
    simp only [Result.andThen_ok, hr, Sem.run_pure]
theorem packV_rel {m : BM} {vs cs : List Value} (h : LR (V1 m) vs cs) (h1 : ∀ v, vs = [v] → noTup v = true) : VR m (packV vs) (if hh : cs.toArray.size = 1 then cs.toArray[0] else .tuple cs.toArray) := by
  match vs, cs, h with
  | [], [], _ => exact ⟨[], trivial, rfl⟩
  | [v], [c], h => exact (VR.of1 (h1 v rfl)).2 h.1
  | u :: v :: vs, c :: d :: cs, h => exact ⟨c :: d :: cs, h, rfl⟩
def bodyOf (fn : Func) : Code := match fn.body with | some c => c | none => .skip
theorem bodyOf_eq {fn : Func} (h : fn.body.isSome = true) : fn.body = some (bodyOf fn) := by
  unfold bodyOf; cases e : fn.body with
  | none => rw [e] at h; cases h
  | some c => rfl
def zipT : Nat → List Value → TM
  | _, [] => []
  | k, v :: vs => (k, v) :: zipT (k + 1) vs
theorem lkT_zip : ∀ {l : List Value} {k i : Nat} {v : Value}, lkT (zipT k l) i = some v → k ≤ i ∧ l[i - k]? = some v
  | [], k, i, v, e => by cases e
  | u :: l, k, i, v, e => by
    unfold zipT lkT at e
    by_cases hk : k = i
    · subst hk
      have : u = v := by simpa using e
      subst this
      exact ⟨Nat.le_refl _, by simp⟩
    · rw [beq_no hk] at e
      obtain ⟨h1, h2⟩ := lkT_zip (l := l) (k := k + 1) e
      refine ⟨by omega, ?_⟩
      rw [show i - k = (i - (k + 1)) + 1 by omega]
      simpa using h2
theorem calls_vc {P : Program} {T : Tab} (hT : TabOk P T) (hmix : P.follows .mixedOrders = true) {f : FuncId} {fn : Func} (hf : P.funcs[f]? = some fn) (hb : fn.body.isSome = true) (pl : Plans)
    {args cs : List Value} {F : Nat → Prop} {B : Nat} {w0 : World} {m : BM} {h : HP} {n : Nat} {w : World} (H : HRel F B w0 m h n w) (hargs : LR (VR m) args cs) (fl : Bool) (hfl : fl = true → noLoop (bodyOf fn) = true) (hN : args.length ≤ fn.ntmps)
    {Post : Value → HP → Nat → Prop} (hv : vc P T fn.ntmps pl (bodyOf fn) (retK T fn.results.toList Post) (zipT 0 args) h n) :
    Calls P f cs.toArray w fun e w' => ∃ m' v c h' n', e = .returned c ∧ (fl = true → m.le m') ∧ VR m' v c ∧ HRel F B w0 m' h' n' w' ∧ Post v h' n' := by
  refine calls_of_wp hf (bodyOf_eq hb) (wp_mono (vc_ok hT hmix hv fl hfl F B w0 m w _ H ⟨?_, rfl, ?_⟩) ?_)
  · have := hargs.length
    simp; omega
  · intro i v e
    obtain ⟨_, e⟩ := lkT_zip e
    obtain ⟨c, hc, hv⟩ := hargs.get e
    refine ⟨c, ?_, hv⟩
    rw [Nat.sub_zero] at hc
    have hlt : i < cs.length := by
      rcases Nat.lt_or_ge i cs.length with h | h
      · exact h
      · rw [List.getElem?_eq_none h] at hc; cases hc
    rw [Array.getElem?_append_left (by simpa using hlt)]
    simpa using hc
  · rintro e a w' ⟨hn, m', t, h', n', hm, H', ht, hk⟩
    have fin : resV T t h' fn.results.toList (fun vs => Post (packV vs) h' n') → ∃ v, (results fn a.tmps).run P w' = .ok v w' ∧ ∃ m' v2 c h' n', Ending.returned v = .returned c ∧ (fl = true → m.le m') ∧ VR m' v2 c ∧ HRel F B w0 m' h' n' w' ∧ Post v2 h' n' := by
      intro hr
      obtain ⟨vs, cs, hk, hl, hnt, hrun⟩ := resV_ok hT hr H' ht
      refine ⟨_, ?_, m', _, _, h', n', rfl, hm, packV_rel hl (fun v e => hnt v (by rw [e]; simp)), H', hk⟩
      unfold results
      rw [Array.mapM_eq_mapM_toList]
      simp only [Sem.run_bind, Sem.run_map]
      erw [hrun]
      rfl
    cases e with
    | normal =>
      obtain ⟨v, hr, hp⟩ := fin hk
      exact ⟨ht.defers, v, hr, hp⟩
    | ret =>
      obtain ⟨v, hr, hp⟩ := fin hk
      exact ⟨ht.defers, v, hr, hp⟩
    | exit id => exact hk.elim
    | goto l => exact hk.elim
    | panic ch => cases hn
    | outgrown => exact hk.elim
/-- A call whose callee is walked in place. -/
theorem call_inline {P : Program} {T : Tab} (hT : TabOk P T) (hmix : P.follows .mixedOrders = true) {f : FuncId} {fn : Func} (hok : FnOk P f) (hf : P.funcs[f]? = some fn) (hb : fn.body.isSome = true) (pl : Plans)
    {args : List Value} {h : HP} {n : Nat} {K : Value → HP → Nat → Prop} (hl : noLoop (bodyOf fn) = true) (hN : args.length ≤ fn.ntmps)
    (hv : vc P T fn.ntmps pl (bodyOf fn) (retK T fn.results.toList K) (zipT 0 args) h n) : CallOb P f args h n K :=
  ⟨hok, fun F B w0 m w cs H ha => (calls_vc hT hmix hf hb pl H ha true (fun _ => hl) hN hv).mono fun e w' ⟨m', v, c, h', n', he, hm, r⟩ => ⟨m', v, c, h', n', he, hm rfl, r⟩⟩
theorem LR.flat {m : BM} : ∀ {l : List Value}, l.all flatR = true → LR (VR m) l l
  | [], _ => trivial
  | v :: l, h => by
    simp only [List.all_cons, Bool.and_eq_true] at h
    exact ⟨VR.same h.1, LR.flat h.2⟩
theorem LR.flat_eq {m : BM} : ∀ {l l' : List Value}, l.all flatR = true → LR (VR m) l l' → l' = l
  | [], [], _, _ => rfl
  | v :: l, c :: l', h, x => by
    simp only [List.all_cons, Bool.and_eq_true] at h
    rw [(VR.flat h.1).1 x.1, LR.flat_eq h.2 x.2]
/-- A call by a contract on values without addresses. -/
theorem call_pure {P : Program} {f : FuncId} (hok : FnOk P f) {args : List Value} {h : HP} {n : Nat} {K : Value → HP → Nat → Prop} {v : Value} (hc : ∀ w, Calls P f args.toArray w fun e w' => e = .returned v ∧ Below w.heap.size w w')
    (ha : args.all flatR = true) (hv : flatR v = true) (hk : K v h n) : CallOb P f args h n K :=
  ⟨hok, fun F B w0 m w cs H hcs => by
    rw [LR.flat_eq ha hcs]
    refine (hc w).mono ?_
    rintro e w' ⟨rfl, hb⟩
    exact ⟨m, v, v, h, n, rfl, BM.le_refl m, VR.same hv, H.later hb, hk⟩⟩
theorem call_same {P : Program} {f : FuncId} (hok : FnOk P f) {args : List Value} {h : HP} {n : Nat} {K : Value → HP → Nat → Prop} {v : Value} (hc : ∀ w, Calls P f args.toArray w fun e w' => e = .returned v ∧ w = w')
    (ha : args.all flatR = true) (hv : flatR v = true) (hk : K v h n) : CallOb P f args h n K :=
  call_pure hok (fun w => (hc w).mono fun _ _ ⟨e, h⟩ => ⟨e, h ▸ Below.refl _ _⟩) ha hv hk
theorem HRel.start (w : World) : HRel (fun _ => False) w.heap.size w (fun _ _ _ => False) [] 0 w :=
  ⟨Keep.refl _ _ _, Nat.le_refl _, fun _ _ _ _ _ h => h.elim, fun _ _ _ h => h.elim, fun _ _ e => (by cases e), fun _ _ _ _ _ _ _ e => (by cases e)⟩
/-- A contract on values without addresses, out of the conditions. -/
theorem calls_pure {P : Program} {T : Tab} (hT : TabOk P T) (hmix : P.follows .mixedOrders = true) {f : FuncId} {fn : Func} (hf : P.funcs[f]? = some fn) (hb : fn.body.isSome = true) (pl : Plans)
    (args : List Value) (ha : args.all flatR = true) (hN : args.length ≤ fn.ntmps) {v : Value} (hfv : flatR v = true)
    (hv : vc P T fn.ntmps pl (bodyOf fn) (retK T fn.results.toList fun u _ _ => u = v) (zipT 0 args) [] 0) (w : World) :
    Calls P f args.toArray w fun e w' => e = .returned v ∧ Below w.heap.size w w' :=
  (calls_vc hT hmix hf hb pl (HRel.start w) (LR.flat ha) false (fun e => by cases e) hN hv).mono fun e w' ⟨m', u, c, h', n', he, _, hu, H, hp⟩ => by
    subst hp
    rw [he, (VR.flat hfv).1 hu]
    exact ⟨rfl, H.keep.below⟩

theorem w64 {x : Int} (h0 : -9223372036854775808 ≤ x) (h1 : x ≤ 9223372036854775807) : x = IntKind.i64.wrap x := by rw [IntKind.wrap_i64]; omega
theorem wu64 {x : Int} (h0 : 0 ≤ x) (h1 : x ≤ 18446744073709551615) : x = IntKind.u64.wrap x := by rw [IntKind.wrap_u64]; omega
theorem wu8 {x : Int} (h0 : 0 ≤ x) (h1 : x ≤ 255) : x = IntKind.u8.wrap x := by rw [IntKind.wrap_u8]; omega
theorem wu32 {x : Int} (h0 : 0 ≤ x) (h1 : x ≤ 4294967295) : x = IntKind.u32.wrap x := by rw [IntKind.wrap_u32]; omega
end Go.Proofs.Ythniifphilnokaa
