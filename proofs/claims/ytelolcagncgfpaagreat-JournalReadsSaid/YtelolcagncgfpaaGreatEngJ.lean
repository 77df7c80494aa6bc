/- A generator of conditions for a walk, part 10: regions, branches, loops, whole functions. No program in sight. -/
import Derived.Test.YtelolcagncgfpaaGreatEngP
namespace Go.Proofs.YtelolcagncgfpaaGreat
open Go.RowKit
set_option linter.unusedSimpArgs false
set_option linter.unusedVariables false
def putK (N : Nat) (d : Option Tmp) (v : Value) (t : TM) (K : TM → Prop) : Prop :=
 match d with
 | none => K t
 | some d => match Nat.blt d N with | true => K ((d, v) :: t) | false => False
theorem putK_ok {N : Nat} {d : Option Tmp} {v : Value} {t : TM} {K : TM → Prop} (h : putK N d v t K) : ∃ t', K t' ∧ ∀ {ds : List Deferred} {m : BM} {a : Act} {c : Value}, TD ds m N t a → VR m v c → TD ds m N t' (a.put d c) := by
 unfold putK at h
 split at h
 · exact ⟨t, h, fun ht _ => ht⟩
 · rename_i d
   split at h
   · rename_i hb
     refine ⟨_, h, fun {ds m a c} ht hv => ⟨⟨by simp [Act.put, ht.r.size], fun i u e => ?_⟩, ht.ds⟩⟩
     have hd : d < N := by
      have : Nat.ble (d + 1) N = true := hb
      exact Nat.le_of_ble_eq_true this
     by_cases hi : d = i
     · subst hi
       have : u = v := by simpa [lkT] using e.symm
       subst this
       exact ⟨c, by simp [Act.put, ht.r.size, hd], hv⟩
     · have e' : lkT t i = some u := by
        unfold lkT at e
        rwa [beq_no hi] at e
       obtain ⟨c', hc, hv'⟩ := ht.r.get i u e'
       exact ⟨c', by simp [Act.put, hi, hc], hv'⟩
   · exact h.elim
theorem TRel.learn {m : BM} {N : Nat} {t : TM} {a : Act} (ht : TRel m N t a) {d : Nat} {b b' : Bool} (e : lkT t d = some (.bool b)) (hb : b = b') : TRel m N ((d, .bool b') :: t) a := by
 subst hb
 refine ⟨ht.size, fun i u e' => ?_⟩
 by_cases hi : d = i
 · subst hi
   have : u = .bool b := by simpa [lkT] using e'.symm
   subst this
   exact ht.get d _ e
 · unfold lkT at e'
   rw [beq_no hi] at e'
   exact ht.get i u e'
theorem TD.learn {ds : List Deferred} {m : BM} {N : Nat} {t : TM} {a : Act} (ht : TD ds m N t a) {d : Nat} {b b' : Bool} (e : lkT t d = some (.bool b)) (hb : b = b') : TD ds m N ((d, .bool b') :: t) a := ⟨ht.r.learn e hb, ht.ds⟩
def vcOp1 (P : Program) (T : Tab) (N : Nat) (o : Oper) (t : TM) (h : HP) (n : Nat) (K : TM → HP → Nat → Prop) : Prop :=
 match isVal T o.op with
 | true => vcVal P T t h o.op fun v => putK N o.dst v t fun t => K t h n
 | false => vcEff P T t h n o.op fun v h n => putK N o.dst v t fun t => K t h n
theorem vcOp1_ok {P : Program} {T : Tab} (hT : TabOk P T) {N : Nat} {o : Oper} {t : TM} {h : HP} {n : Nat} {K : TM → HP → Nat → Prop} (hv : vcOp1 P T N o t h n K) :
 ∀ ds F B w0 m w a Q, HRel F B w0 m h n w → TD ds m N t a → o.wp P a w (fun a' w' => ∃ m' t' h' n', m.le m' ∧ HRel F B w0 m' h' n' w' ∧ TD ds m' N t' a' ∧ K t' h' n') Q := by
 intro ds F B w0 m w a Q H ht
 unfold vcOp1 at hv
 split at hv
 · obtain ⟨v, hk, hp⟩ := vcVal_ok hT hv
   obtain ⟨t', hk, hput⟩ := putK_ok hk
   obtain ⟨c, hc, hr⟩ := hp F B w0 m n w N a H ht.r
   unfold Oper.wp
   rw [hr]
   exact ⟨m, t', h, n, BM.le_refl m, H, hput ht hc, hk⟩
 · refine Oper.wp_mono (fun a' w' ⟨m', v, c, h', n', hm, e, hv, H', hk⟩ => ?_) (vcEff_ok hT hv F B w0 m w N a Q H ht.r)
   obtain ⟨t', hk, hput⟩ := putK_ok hk
   exact ⟨m', t', h', n', hm, H', e ▸ hput (ht.mono hm) hv, hk⟩
def vcGuard (N : Nat) (ops : List Oper) (o : Oper) (t : TM) (Kt Kf : TM → Prop) : Prop :=
 match o.guard with
 | none => Kt t
 | some (j, want) => onS ((ops[j]?).bind (·.dst)) fun d => onS (lkT t d) fun v => match v with
  | .bool b => match want with
   | true => ifB b (Kt ((d, .bool true) :: t)) (putK N o.dst undef ((d, .bool false) :: t) Kf)
   | false => ifB b (putK N o.dst undef ((d, .bool true) :: t) Kf) (Kt ((d, .bool false) :: t))
  | .tuple ⟨[]⟩ => putK N o.dst undef t Kf
  | _ => False
theorem vcGuard_ok {N : Nat} {ops : Array Oper} {o : Oper} {t : TM} {Kt Kf : TM → Prop} (h : vcGuard N ops.toList o t Kt Kf) {ds : List Deferred} {m : BM} {a : Act} (ht : TD ds m N t a) :
 (Region.wanted o (yielded ops a.tmps) = true ∧ ∃ t', TD ds m N t' a ∧ Kt t') ∨ (Region.wanted o (yielded ops a.tmps) = false ∧ ∃ t', TD ds m N t' (a.put o.dst undef) ∧ Kf t') := by
 unfold vcGuard at h
 split at h
 · rename_i hg
   exact .inl ⟨by simp [Region.wanted, hg], t, ht, h⟩
 · rename_i j want hg
   obtain ⟨d, hd, h2⟩ := onS_ok h
   obtain ⟨v, hv, h3⟩ := onS_ok h2
   have hd' : (ops[j]?).bind (·.dst) = some d := by simpa using hd
   obtain ⟨c, hc, hvc⟩ := ht.r.get d v hv
   split at h3
   · rename_i b
     have hy : yielded ops a.tmps j = some b := by
      have := hvc.bool
      subst this
      simp [yielded, hd', hc]
     replace h3 : (b = want → Kt ((d, .bool want) :: t)) ∧ (b = !want → putK N o.dst undef ((d, .bool (!want)) :: t) Kf) := by
      cases want with
      | true => exact ifB_ok h3
      | false => exact (ifB_ok h3).symm
     by_cases hb : b = want
     · exact .inl ⟨by simp [Region.wanted, hg, hy, hb], _, ht.learn hv hb, h3.1 hb⟩
     · have hb' : b = !want := by cases b <;> cases want <;> simp_all
       obtain ⟨t', hk, hput⟩ := putK_ok (h3.2 hb')
       exact .inr ⟨by simp [Region.wanted, hg, hy, hb], t', hput (ht.learn hv hb') (VR.same rfl), hk⟩
   · have hy : yielded ops a.tmps j = none := by
      have := (VR.flat rfl).1 hvc
      subst this
      simp [yielded, hd', hc]
     obtain ⟨t', hk, hput⟩ := putK_ok h3
     exact .inr ⟨by simp [Region.wanted, hg, hy], t', hput ht (VR.same rfl), hk⟩
   · exact h3.elim
def vcOps (P : Program) (T : Tab) (N : Nat) (ops : List Oper) : List Oper → TM → HP → Nat → (TM → HP → Nat → Prop) → Prop := fun l =>
 List.rec (motive := fun _ => TM → HP → Nat → (TM → HP → Nat → Prop) → Prop) (fun t h n K => K t h n)
  (fun o _ ih t h n K => vcGuard N ops o t (fun t => vcOp1 P T N o t h n fun t h n => ih t h n K) (fun t => ih t h n K)) l
theorem vcOps_ok {P : Program} {T : Tab} (hT : TabOk P T) {N : Nat} {ops : Array Oper} : ∀ {rest : List Oper} {t : TM} {h : HP} {n : Nat} {K : TM → HP → Nat → Prop}, vcOps P T N ops.toList rest t h n K →
 ∀ ds F B w0 m w a Q, HRel F B w0 m h n w → TD ds m N t a → (∀ m' t' h' n' a' w', m.le m' → HRel F B w0 m' h' n' w' → TD ds m' N t' a' → K t' h' n' → Q .normal a' w') → wpList P ops Q rest a w
 | [], t, h, n, K, hv, ds, F, B, w0, m, w, a, Q, H, ht, hq => hq m t h n a w (BM.le_refl m) H ht hv
 | o :: rest, t, h, n, K, hv, ds, F, B, w0, m, w, a, Q, H, ht, hq => by
  unfold wpList
  replace hv : vcGuard N ops.toList o t (fun t => vcOp1 P T N o t h n fun t h n => vcOps P T N ops.toList rest t h n K) (fun t => vcOps P T N ops.toList rest t h n K) := hv
  rcases vcGuard_ok hv ht with ⟨hw, t', ht', h2⟩ | ⟨hw, t', ht', h2⟩
  · rw [if_pos hw]
    exact .inl (Oper.wp_mono (fun a' w' ⟨m', t2, h', n', hm, H', ht2, hk⟩ => vcOps_ok hT hk ds F B w0 m' w' a' Q H' ht2 fun m2 t3 h3 n3 a3 w3 hm2 => hq m2 t3 h3 n3 a3 w3 (BM.le_trans hm hm2)) (vcOp1_ok hT h2 ds F B w0 m w a Q H ht'))
  · rw [if_neg (by rw [hw]; decide)]
    exact vcOps_ok hT h2 ds F B w0 m w _ Q H ht' hq
def extH (full : HP) : HP → HP → Prop
 | [], _ => True
 | (i, _) :: r, h' => lkH h' i = lkH full i ∧ extH full r h'
theorem extH_ok {full : HP} : ∀ {r h' : HP}, extH full r h' → ∀ i it, lkH r i = some it → lkH h' i = lkH full i
 | [], _, _, i, it, e => by cases e
 | (j, x) :: r, h', ⟨h1, h2⟩, i, it, e => by
  by_cases hj : j = i
  · subst hj; exact h1
  · unfold lkH at e
    rw [beq_no hj] at e
    exact extH_ok h2 i it e
theorem LR.swap {m m' : BM} (hle : m.le m') (hf : m'.Fn) {cs l l' : List Value} (x : LR (V1 m) cs l) (x' : LR (V1 m') cs l') : l' = l :=
 LR.fn (R := V1 m') (fun _ _ _ => V1.fn hf) x' (x.mono fun _ _ => V1.mono hle)
theorem ViewIs.swap {m m' : BM} (hle : m.le m') (hf : m'.Fn) {w w' : World} {g s : Nat} {cs : List Value} : ViewIs m w g s cs → ViewIs m' w' g s cs → ViewIs m w' g s cs :=
 fun ⟨_, _, l, x, _⟩ ⟨a, b, l', x', y'⟩ => ⟨a, b, l, x, by rw [← LR.swap hle hf x x']; exact y'⟩
theorem RowIs.swap {F : Nat → Prop} {B : Nat} {m m' : BM} (hle : m.le m') (hf : m'.Fn) {w w' : World} {g : Nat} {ty : TypeId} {size cap : Nat} {cs : List Value} : RowIs F B m w g ty size cap cs → RowIs F B m' w' g ty size cap cs → RowIs F B m w' g ty size cap cs :=
 fun ⟨_, _, l, cur, x, _⟩ ⟨b, c, l', cur', x', y'⟩ => ⟨b, c, l, cur', x, by rw [← LR.swap hle hf x x']; exact y'⟩
theorem ItmOk.swap {F : Nat → Prop} {B : Nat} {m m' : BM} (hle : m.le m') (hf : m'.Fn) {w w' : World} {g s : Nat} : ∀ {it : Itm}, ItmOk F B m w g s it → ItmOk F B m' w' g s it → ItmOk F B m w' g s it
 | .own _ _, ⟨_, _, l, x, _⟩, ⟨a, b, l', x', y'⟩ => ⟨a, b, l, x, by rw [← LR.swap hle hf x x']; exact y'⟩
 | .view _, x, x' => ViewIs.swap hle hf x x'
 | .row .., ⟨_, x⟩, ⟨a, x'⟩ => ⟨a, x.swap hle hf x'⟩
 | .lst .., .inl x, _ => .inl x
 | .lst .., .inr ⟨a, x⟩, .inr ⟨_, x'⟩ => .inr ⟨a, x.swap hle hf x'⟩
 | .lst .., .inr ⟨a, x⟩, .inl ⟨b, _⟩ => absurd (a.symm.trans b) zero_ne_nilS
 | .lview _, .inl x, _ => .inl x
 | .lview _, .inr x, .inr x' => .inr (x.swap hle hf x')
 | .lview _, .inr x, .inl x' => absurd x'.1 x.2.1
 | .mp .., ⟨_, _, E, _, _, _, z⟩, ⟨a, b, E', c', x', y', z'⟩ => ⟨a, b, E', c', x', y', by rw [LR.swap hle hf z z']; exact z⟩
 | .gv .., _, x => x
 | .abs .., _, x => x
theorem HRel.up {F : Nat → Prop} {B : Nat} {w0 : World} {m m' : BM} {h : HP} {n n' : Nat} {w : World} (H : HRel F B w0 m h n w) (hle : m.le m') (hf : m'.Fn) (hfr : ∀ i g s, m' i g s → i < n') : HRel F B w0 m' h n' w := by
 refine ⟨H.keep, H.base, hf, hfr, fun i it e => let ⟨g, s, x, y⟩ := H.dom i it e; ⟨g, s, hle _ _ _ x, y.mono hle⟩, ?_⟩
 intro i it j jt g s g' s' b e1 hm e2 hij x y hb1 hb2
 obtain ⟨g1, s1, x1, _⟩ := H.dom i it e1
 obtain ⟨g2, s2, x2, _⟩ := H.dom j jt e2
 obtain ⟨rfl, rfl⟩ := hf _ _ _ _ _ x (hle _ _ _ x1)
 obtain ⟨rfl, rfl⟩ := hf _ _ _ _ _ y (hle _ _ _ x2)
 exact H.sep i it j jt _ _ _ _ b e1 hm e2 hij x1 x2 hb1 hb2
theorem HRel.down {F : Nat → Prop} {B : Nat} {w0 : World} {m m' : BM} {h h' : HP} {n n' : Nat} {w w' : World} (H : HRel F B w0 m h n w) (H' : HRel F B w0 m' h' n' w') (hle : m.le m') (he : extH h h h') : HRel F B w0 m h n w' := by
 refine ⟨H'.keep, H.base, H.fn, H.fresh, fun i it e => ?_, H.sep⟩
 obtain ⟨g, s, x, y⟩ := H.dom i it e
 have e' : lkH h' i = some it := by rw [extH_ok he i it e, e]
 exact ⟨g, s, x, y.swap hle H'.fn (H'.at e' (hle _ _ _ x))⟩
theorem HRel.any {F : Nat → Prop} {B : Nat} {w0 : World} {m : BM} {h : HP} {n : Nat} {w : World} (H : HRel F B w0 m h n w) (w' : World) : HRel (fun _ => False) 0 w' m [] n w' :=
 ⟨Keep.refl _ _ _, Nat.zero_le _, H.fn, H.fresh, fun i it e => (by cases e), fun i it j jt g s g' s' b e => (by cases e)⟩
def vcPlan (P : Program) (T : Tab) (N : Nat) (ops : List Oper) : List (Bool × Bool × Oper) → HP → TM → HP → Nat → (TM → HP → Nat → Prop) → Prop := fun l =>
 List.rec (motive := fun _ => HP → TM → HP → Nat → (TM → HP → Nat → Prop) → Prop) (fun _ t h n K => K t h n)
  (fun p _ ih h0 t h n K => vcGuard N ops p.2.2 t
   (fun t => match p.1 with
    | true => vcVal P T t (match memOp p.2.2.op with | true => h0 | false => []) p.2.2.op fun v => putK N p.2.2.dst v t fun t => ih h0 t h n K
    | false => vcEff P T t h n p.2.2.op fun v h n => match p.2.1 with
     | true => putK N p.2.2.dst v t fun t => ih h t h n K
     | false => extH h0 h0 h ∧ putK N p.2.2.dst v t fun t => ih h0 t h n K)
   (fun t => ih h0 t h n K)) l
theorem vcPlan_ok {P : Program} {T : Tab} (hT : TabOk P T) {N : Nat} {ops : Array Oper} {ds : List Deferred} {F : Nat → Prop} {B : Nat} {w0 : World} :
 ∀ {l : List (Bool × Bool × Oper)} {h0 : HP} {n0 : Nat} {m0 : BM} {t : TM} {h : HP} {n : Nat} {K : TM → HP → Nat → Prop}, vcPlan P T N ops.toList l h0 t h n K →
 ∀ m w a Q, m0.le m → HRel F B w0 m0 h0 n0 w → HRel F B w0 m h n w → TD ds m N t a → (∀ m' t' h' n' a' w', m.le m' → HRel F B w0 m' h' n' w' → TD ds m' N t' a' → K t' h' n' → Q .normal a' w') →
  wpPlanD P ops Q l (fun w' => HRel F B w0 m0 h0 n0 w') a w
 | [], h0, n0, m0, t, h, n, K, hv, m, w, a, Q, hle, HS, H, ht, hq => hq m t h n a w (BM.le_refl m) H ht hv
 | (true, bar, o) :: rest, h0, n0, m0, t, h, n, K, hv, m, w, a, Q, hle, HS, H, ht, hq => by
  replace hv : vcGuard N ops.toList o t (fun t => vcVal P T t (match memOp o.op with | true => h0 | false => []) o.op fun v => putK N o.dst v t fun t => vcPlan P T N ops.toList rest h0 t h n K) (fun t => vcPlan P T N ops.toList rest h0 t h n K) := hv
  rcases vcGuard_ok hv ht with ⟨hw, t', ht', h2⟩ | ⟨hw, t', ht', h2⟩
  · obtain ⟨v, hk, hp⟩ := vcVal_ok hT h2
    obtain ⟨t2, hk, hput⟩ := putK_ok hk
    have up : ∀ w', HRel F B w0 m0 h0 n0 w' → HRel F B w0 m h0 n w' := fun w' h => h.up hle H.fn H.fresh
    have key : ∃ c, VR m v c ∧ ∀ w', (match memOp o.op with | true => fun w' => HRel F B w0 m0 h0 n0 w' | false => fun _ => True : World → Prop) w' → (execOp a.eval o).run P w' = .ok (.value c) w' := by
     cases e : memOp o.op with
     | true =>
      rw [e] at hp
      obtain ⟨c, hc, hr⟩ := hp F B w0 m n w N a (up w HS) ht'.r
      refine ⟨c, hc, fun w' h' => ?_⟩
      obtain ⟨c', hc', hr'⟩ := hp F B w0 m n w' N a (up w' h') ht'.r
      rw [hr', VR.fn H.fn hc' hc]
     | false =>
      rw [e] at hp
      obtain ⟨c, hc, hr⟩ := hp _ _ _ m n w N a (H.any w) ht'.r
      refine ⟨c, hc, fun w' _ => ?_⟩
      obtain ⟨c', hc', hr'⟩ := hp _ _ _ m n w' N a (H.any w') ht'.r
      rw [hr', VR.fn H.fn hc' hc]
    obtain ⟨c, hc, hy⟩ := key
    exact ⟨c, .inl ⟨hw, hy⟩, vcPlan_ok hT hk m w _ Q hle HS H (hput ht' hc) hq⟩
  · exact ⟨undef, .inr ⟨hw, rfl⟩, vcPlan_ok hT h2 m w _ Q hle HS H ht' hq⟩
 | (false, bar, o) :: rest, h0, n0, m0, t, h, n, K, hv, m, w, a, Q, hle, HS, H, ht, hq => by
  replace hv : vcGuard N ops.toList o t (fun t => vcEff P T t h n o.op fun v h n => match (generalizing := false) bar with
        | true => putK N o.dst v t fun t => vcPlan P T N ops.toList rest h t h n K
        | false => extH h0 h0 h ∧ putK N o.dst v t fun t => vcPlan P T N ops.toList rest h0 t h n K) (fun t => vcPlan P T N ops.toList rest h0 t h n K) := hv
  rcases vcGuard_ok hv ht with ⟨hw, t', ht', h2⟩ | ⟨hw, t', ht', h2⟩
  · show (if Region.wanted o (yielded ops a.tmps) = true then _ else _)
    rw [if_pos hw]
    refine Oper.wp_mono (fun a' w' ⟨m', v, c, h', n', hm, e, hvc, H', hk⟩ => ?_) (vcEff_ok hT h2 F B w0 m w N a Q H ht'.r)
    cases bar with
    | true =>
     obtain ⟨t2, hk, hput⟩ := putK_ok hk
     exact ⟨_, H', .inl rfl, vcPlan_ok hT hk m' w' a' Q (BM.le_refl m') H' H' (e ▸ hput (ht'.mono hm) hvc) fun m2 t3 h3 n3 a3 w3 hm2 => hq m2 t3 h3 n3 a3 w3 (BM.le_trans hm hm2)⟩
    | false =>
     obtain ⟨hext, hk⟩ := hk
     obtain ⟨t2, hk, hput⟩ := putK_ok hk
     have HS' := HS.down H' (BM.le_trans hle hm) hext
     exact ⟨_, HS', .inr rfl, vcPlan_ok hT hk m' w' a' Q (BM.le_trans hle hm) HS' H' (e ▸ hput (ht'.mono hm) hvc) fun m2 t3 h3 n3 a3 w3 hm2 => hq m2 t3 h3 n3 a3 w3 (BM.le_trans hm hm2)⟩
  · show (if Region.wanted o (yielded ops a.tmps) = true then _ else _)
    rw [if_neg (by rw [hw]; decide)]
    exact vcPlan_ok hT h2 m w _ Q hle HS H ht' hq
end Go.Proofs.YtelolcagncgfpaaGreat
