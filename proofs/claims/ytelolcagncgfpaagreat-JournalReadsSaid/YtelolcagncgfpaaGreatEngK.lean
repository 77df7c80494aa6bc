/- A generator of conditions for a walk, part 11: code; loops; functions. No program in sight. -/
import Derived.Test.YtelolcagncgfpaaGreatEngJ
namespace Go.Proofs.YtelolcagncgfpaaGreat
open Go.RowKit
set_option linter.unusedSimpArgs false
set_option linter.unusedVariables false
abbrev KT := Exit → TM → HP → Nat → Prop
abbrev Plans := List (Nat × List (Nat × Bool))
def lkP : Plans → Nat → Option (List (Nat × Bool))
 | [], _ => none
 | (j, x) :: r, i => bif Nat.beq j i then some x else lkP r i
def noPan : Exit → Bool | .panic _ => false | _ => true
def BM.leN (np : Nat) (m m' : BM) : Prop := ∀ i g s, i < np → m i g s → m' i g s
theorem BM.leN_refl (np : Nat) (m : BM) : BM.leN np m m := fun _ _ _ _ h => h
theorem BM.leN_trans {np : Nat} {m m' m'' : BM} (h : BM.leN np m m') (h' : BM.leN np m' m'') : BM.leN np m m'' := fun i g s hi x => h' i g s hi (h i g s hi x)
theorem BM.le.leN {np : Nat} {m m' : BM} (h : m.le m') : BM.leN np m m' := fun i g s _ x => h i g s x
def QK (ds : List Deferred) (np : Nat) (m0 : BM) (F : Nat → Prop) (B : Nat) (w0 : World) (N : Nat) (K : KT) : Exit → Act → World → Prop :=
 fun e a w => noPan e = true ∧ ∃ m t h n, BM.leN np m0 m ∧ HRel F B w0 m h n w ∧ TD ds m N t a ∧ K e t h n
theorem QK.mono {ds : List Deferred} {np : Nat} {m0 m1 : BM} {F : Nat → Prop} {B : Nat} {w0 : World} {N : Nat} {K : KT} (hm : BM.leN np m0 m1) {e : Exit} {a : Act} {w : World} (h : QK ds np m1 F B w0 N K e a w) : QK ds np m0 F B w0 N K e a w :=
 let ⟨h0, m, t, hp, n, h1, h2⟩ := h; ⟨h0, m, t, hp, n, BM.leN_trans hm h1, h2⟩
structure RegOb (P : Program) (N np : Nat) (id : Nat) (ops : Array Oper) (K : TM → HP → Nat → Prop) (t : TM) (h : HP) (n : Nat) : Prop where
 run : ∀ ds F B w0 m w a, HRel F B w0 m h n w → TD ds m N t a → (Code.region id ops true).wp P (fun e a' w' => e = .normal ∧ ∃ m' t' h' n', BM.leN np m m' ∧ HRel F B w0 m' h' n' w' ∧ TD ds m' N t' a' ∧ K t' h' n') a w
structure LoopOb (P : Program) (N np : Nat) (c : Code) (K : KT) (t : TM) (h : HP) (n : Nat) : Prop where
 run : ∀ ds F B w0 m w a, HRel F B w0 m h n w → TD ds m N t a → (Code.loop c).wp P (QK ds np m F B w0 N K) a w
def setB (t : TM) (c : Operand) (b : Bool) : TM := match c with | .tmp d => (d, .bool b) :: t | _ => t
def planChk (ops : List Oper) (plan : List (Nat × Bool)) : Bool :=
 Region.noSelect ops.toArray && (plan.length == ops.toArray.size) && planD ops.toArray (barsOf plan) plan (Array.replicate ops.toArray.size false)
def vc (P : Program) (T : Tab) (N np : Nat) (pl : Plans) : Code → KT → TM → HP → Nat → Prop := fun c =>
 Code.rec (motive := fun _ => KT → TM → HP → Nat → Prop)
  (fun K t h n => K .normal t h n)
  (fun id ops draw K t h n => match draw with
   | false => vcOps P T N ops.toList ops.toList t h n (K .normal)
   | true => match lkP pl id with
    | some plan => planChk ops.toList plan = true ∧ vcPlan P T N ops.toList (planOpsD ops.toList.toArray plan) h t h n (K .normal)
    | none => RegOb P N np id ops (K .normal) t h n)
  (fun _ _ ix iy K t h n => ix (fun e t h n => match e with | .normal => iy K t h n | e => K e t h n) t h n)
  (fun c _ _ ix iy K t h n => onS (ev t c) fun v => match v with
   | .bool b => ifB b (ix K (setB t c true) h n) (iy K (setB t c false) h n)
   | _ => False)
  (fun id _ ic K t h n => ic (fun e t h n => match e with | .exit j => (match Nat.beq j id with | true => K .normal t h n | false => K (.exit j) t h n) | e => K e t h n) t h n)
  (fun c _ K t h n => LoopOb P N np c K t h n)
  (fun _ _ _ _ _ _ _ _ _ _ => False)
  (fun id K t h n => K (.exit id) t h n)
  (fun _ _ _ _ _ _ => False)
  (fun _ K t h n => K .normal t h n)
  (fun _ _ _ _ _ => False)
  (fun K t h n => K .ret t h n)
  (fun _ _ _ _ _ => False) c
theorem TD.setB {ds : List Deferred} {m : BM} {N : Nat} {t : TM} {a : Act} (ht : TD ds m N t a) {c : Operand} {b b' : Bool} (e : ev t c = some (.bool b)) (hb : b = b') : TD ds m N (Go.Proofs.YtelolcagncgfpaaGreat.setB t c b') a := by
 cases c with
 | tmp d => exact ht.learn e hb
 | const v => exact ht
 | global g => exact ht
 | func f => exact ht
theorem vc_ok {P : Program} {T : Tab} (hT : TabOk P T) (hmix : P.follows .mixedOrders = true) {N np : Nat} {pl : Plans} : ∀ {c : Code} {K : KT} {t : TM} {h : HP} {n : Nat}, vc P T N np pl c K t h n →
 ∀ ds F B w0 m w a, HRel F B w0 m h n w → TD ds m N t a → c.wp P (QK ds np m F B w0 N K) a w := by
 intro c
 induction c with
 | skip => intro K t h n hv ds F B w0 m w a H ht; exact wp_skip ⟨rfl, m, t, h, n, BM.leN_refl _ m, H, ht, hv⟩
 | label l => intro K t h n hv ds F B w0 m w a H ht; exact wp_label ⟨rfl, m, t, h, n, BM.leN_refl _ m, H, ht, hv⟩
 | exit id => intro K t h n hv ds F B w0 m w a H ht; exact wp_exit ⟨rfl, m, t, h, n, BM.leN_refl _ m, H, ht, hv⟩
 | ret => intro K t h n hv ds F B w0 m w a H ht; exact wp_ret ⟨rfl, m, t, h, n, BM.leN_refl _ m, H, ht, hv⟩
 | region id ops draw =>
  intro K t h n hv ds F B w0 m w a H ht
  cases draw with
  | false =>
   exact wp_region_list (vcOps_ok hT hv ds F B w0 m w a _ H ht fun m' t' h' n' a' w' hm H' ht' hk => ⟨rfl, m', t', h', n', hm.leN, H', ht', hk⟩)
  | true =>
   replace hv : match lkP pl id with
    | some plan => planChk ops.toList plan = true ∧ vcPlan P T N ops.toList (planOpsD ops.toList.toArray plan) h t h n (K .normal)
    | none => RegOb P N np id ops (K .normal) t h n := hv
   cases hpl : lkP pl id with
   | none =>
    rw [hpl] at hv
    exact wp_mono (hv.run ds F B w0 m w a H ht) fun e a' w' ⟨he, m', t', h', n', hm, H', ht', hk⟩ => by
     subst he
     exact ⟨rfl, m', t', h', n', hm, H', ht', hk⟩
   | some plan =>
   rw [hpl] at hv
   obtain ⟨hchk, h2⟩ := hv
   have H' := H.later (Below.drew' w)
   have e : ops = ops.toList.toArray := by simp
   unfold planChk at hchk
   rw [← e] at hchk h2
   refine wp_region_planD (fun w' => HRel F B w0 m h n w') (barsOf plan) plan hmix hchk (fun c a t v w hq => ?_) H' ?_
   · cases hq.1
   · exact vcPlan_ok (ops := ops) hT h2 m w.drew a (QK ds np m F B w0 N K) (BM.le_refl m) H' H' ht fun m' t' h' n' a' w' hm H' ht' hk => ⟨rfl, m', t', h', n', hm.leN, H', ht', hk⟩
 | seq x y ihx ihy =>
  intro K t h n hv ds F B w0 m w a H ht
  refine wp_seq (wp_mono (ihx hv ds F B w0 m w a H ht) fun e a' w' hq => ?_)
  obtain ⟨hn, m', t', h', n', hm, H', ht', hk⟩ := hq
  cases e with
  | normal => exact wp_mono (ihy hk ds F B w0 m' w' a' H' ht') fun e a2 w2 hq => QK.mono hm hq
  | exit id => exact ⟨rfl, m', t', h', n', hm, H', ht', hk⟩
  | goto l => exact ⟨rfl, m', t', h', n', hm, H', ht', hk⟩
  | ret => exact ⟨rfl, m', t', h', n', hm, H', ht', hk⟩
  | panic ch => cases hn
  | outgrown => exact ⟨rfl, m', t', h', n', hm, H', ht', hk⟩
 | cond c x y ihx ihy =>
  intro K t h n hv ds F B w0 m w a H ht
  obtain ⟨v, hev, h2⟩ := onS_ok hv
  cases v <;> first | exact h2.elim | skip
  rename_i b
  replace h2 := ifB_ok h2
  have hc := (ev_ok hev ht.r).bool
  cases b with
  | true => exact wp_cond_true hc (ihx (h2.1 rfl) ds F B w0 m w a H (ht.setB hev rfl))
  | false => exact wp_cond_false hc (ihy (h2.2 rfl) ds F B w0 m w a H (ht.setB hev rfl))
 | block id c ih =>
  intro K t h n hv ds F B w0 m w a H ht
  refine wp_block (wp_mono (ih hv ds F B w0 m w a H ht) fun e a' w' hq => ?_)
  obtain ⟨hn, m', t', h', n', hm, H', ht', hk⟩ := hq
  cases e with
  | exit j =>
   show (if j = id then _ else _)
   cases hb : Nat.beq j id with
   | true =>
    dsimp only at hk
    rw [hb] at hk
    rw [if_pos (Nat.eq_of_beq_eq_true hb)]
    exact ⟨rfl, m', t', h', n', hm, H', ht', hk⟩
   | false =>
    dsimp only at hk
    rw [hb] at hk
    rw [if_neg (fun x => by subst x; rw [beq_refl'] at hb; cases hb)]
    exact ⟨rfl, m', t', h', n', hm, H', ht', hk⟩
  | normal => exact ⟨rfl, m', t', h', n', hm, H', ht', hk⟩
  | goto l => exact ⟨rfl, m', t', h', n', hm, H', ht', hk⟩
  | ret => exact ⟨rfl, m', t', h', n', hm, H', ht', hk⟩
  | panic ch => cases hn
  | outgrown => exact ⟨rfl, m', t', h', n', hm, H', ht', hk⟩
 | loop c ih =>
  intro K t h n hv ds F B w0 m w a H ht
  exact hv.run ds F B w0 m w a H ht
 | rangeFunc f ps x y => intro K t h n hv; exact hv.elim
 | scope c => intro K t h n hv; exact hv.elim
 | goto l => intro K t h n hv; exact hv.elim
 | refuse why => intro K t h n hv; exact hv.elim
abbrev IdMap := List (Nat × Option Nat)
def lkL : IdMap → Nat → Option (Option Nat)
 | [], _ => none
 | (j, x) :: r, i => bif Nat.beq j i then some x else lkL r i
def img (np : Nat) (L : IdMap) (i : Nat) : Option (Option Nat) := match Nat.blt i np with | true => some (some i) | false => lkL L i
def BM.via (m : BM) (np : Nat) (L : IdMap) : BM := fun i g s => match img np L i with | some (some b) => m b g s | some none => g = 0 ∧ s = nilS | none => False
def cov0 (np : Nat) (L : IdMap) (v0 v : Value) : Prop :=
 match v0 with
 | .pointer (some ⟨i, o, none⟩) => onS (img np L i) fun x => onS x fun b => match v with | .pointer (some ⟨b', o', none⟩) => b' = b ∧ o' = o | _ => False
 | .iface t (.pointer (some ⟨i, o, none⟩)) => onS (img np L i) fun x => onS x fun b => match v with | .iface t' (.pointer (some ⟨b', o', none⟩)) => t' = t ∧ b' = b ∧ o' = o | _ => False
 | .map (some i) => onS (img np L i) fun x => onS x fun b => match v with | .map (some b') => b' = b | _ => False
 | .iface t (.map (some i)) => onS (img np L i) fun x => onS x fun b => match v with | .iface t' (.map (some b')) => t' = t ∧ b' = b | _ => False
 | .slice (some ⟨i, o, none⟩) n k => onS (img np L i) fun x => onS x fun b => match v with | .slice (some ⟨b', o', none⟩) n' k' => b' = b ∧ o' = o ∧ n' = n ∧ k' = k | _ => False
 | .slice (some ⟨i, o, some Nat.zero⟩) n k => onS (img np L i) fun x => match x with
  | none => n = 0 ∧ k = 0 ∧ v = .slice none 0 0
  | some b => match v with | .slice (some ⟨b', o', q'⟩) n' k' => nr q' <| b' = b ∧ o' = o ∧ n' = n ∧ k' = k | _ => False
 | .pointer (some ⟨g, o, some (Nat.succ q)⟩) => match v with | .pointer (some ⟨g', o', some (Nat.succ q')⟩) => g' = g ∧ o' = o ∧ q' = q | _ => False
 | .slice (some ⟨g, o, some (Nat.succ q)⟩) n k => match v with | .slice (some ⟨g', o', some (Nat.succ q')⟩) n' k' => g' = g ∧ o' = o ∧ q' = q ∧ n' = n ∧ k' = k | .slice none n' k' => g = 0 ∧ q = 2 ∧ n' = n ∧ k' = k | _ => False
 | v0 => chk (flat0 v0) (forceV v fun v => v = v0)
theorem cov0_ok {np : Nat} {L : IdMap} {m : BM} {v0 v c : Value} (h : cov0 np L v0 v) (hv : V0 m v c) : V0 (m.via np L) v0 c := by
 have key : ∀ {i o b : Nat} {d : Addr}, img np L i = some (some b) → A0 m ⟨b, o, none⟩ d → A0 (m.via np L) ⟨i, o, none⟩ d := by
  intro i o b d e hd
  obtain ⟨g, s, hm, hs, rfl⟩ := hd.old
  refine A0.in ?_ hs
  show BM.via m np L i g s
  unfold BM.via
  rw [e]; exact hm
 unfold cov0 at h
 split at h
 · obtain ⟨x, hx, h2⟩ := onS_ok h
   obtain ⟨b, rfl, h3⟩ := onS_ok h2
   split at h3
   · obtain ⟨rfl, rfl⟩ := h3
     obtain ⟨d, hd, rfl⟩ : ∃ d, A0 m _ d ∧ c = .pointer (some d) := hv
     exact ⟨d, key hx hd, rfl⟩
   · exact h3.elim
 · obtain ⟨x, hx, h2⟩ := onS_ok h
   obtain ⟨b, rfl, h3⟩ := onS_ok h2
   split at h3
   · obtain ⟨rfl, rfl, rfl⟩ := h3
     obtain ⟨d, hd, rfl⟩ : ∃ d, A0 m _ d ∧ c = .iface _ (.pointer (some d)) := hv
     exact ⟨d, key hx hd, rfl⟩
   · exact h3.elim
 · obtain ⟨x, hx, h2⟩ := onS_ok h
   obtain ⟨b, rfl, h3⟩ := onS_ok h2
   split at h3
   · obtain rfl := h3
     obtain ⟨d, hd, rfl⟩ : ∃ d, A0 m ⟨_, 0, none⟩ d ∧ c = .map (some d.block) := hv
     exact ⟨d, key hx hd, rfl⟩
   · exact h3.elim
 · obtain ⟨x, hx, h2⟩ := onS_ok h
   obtain ⟨b, rfl, h3⟩ := onS_ok h2
   split at h3
   · obtain ⟨rfl, rfl⟩ := h3
     obtain ⟨d, hd, rfl⟩ : ∃ d, A0 m ⟨_, 0, none⟩ d ∧ c = .iface _ (.map (some d.block)) := hv
     exact ⟨d, key hx hd, rfl⟩
   · exact h3.elim
 · obtain ⟨x, hx, h2⟩ := onS_ok h
   obtain ⟨b, rfl, h3⟩ := onS_ok h2
   split at h3
   · obtain ⟨rfl, rfl, rfl, rfl⟩ := h3
     obtain ⟨d, hd, rfl⟩ : ∃ d, A0 m _ d ∧ c = slcF _ _ d := hv
     exact ⟨d, key hx hd, rfl⟩
   · exact h3.elim
 · rename_i i o q n k
   obtain ⟨x, hx, h2⟩ := onS_ok h
   cases x with
   | none =>
    obtain ⟨rfl, rfl, rfl⟩ := h2
    obtain rfl : c = .slice none 0 0 := hv
    refine ⟨0, nilS, ?_, .inl ⟨rfl, rfl, rfl, by rw [weird_zero]⟩⟩
    unfold BM.via
    rw [hx]; exact ⟨rfl, rfl⟩
   | some b =>
    dsimp only at h2
    split at h2
    · rename_i b' o' q' n' k'
      obtain ⟨hr, rfl, rfl, rfl, rfl⟩ := nr_ok h2
      rcases VR.slc_or (m := m) (p := q') ((VR.of0 rfl).2 hv) hr with ⟨rfl, rfl, g, rfl, hm, _⟩ | ⟨g, s, hm, hs, rfl⟩
      · refine ⟨g, nilS, ?_, .inl ⟨rfl, rfl, rfl, rfl⟩⟩
        unfold BM.via
        rw [hx]; exact hm
      · refine ⟨g, s, ?_, .inr ⟨hs, rfl⟩⟩
        unfold BM.via
        rw [hx]; exact hm
    · exact h2.elim
 · split at h
   · obtain ⟨rfl, rfl, rfl⟩ := h
     obtain ⟨d, hd, rfl⟩ : ∃ d, A0 m _ d ∧ c = .pointer (some d) := hv
     obtain rfl := (A0.rig rfl).1 hd
     exact ⟨_, (A0.rig rfl).2 rfl, rfl⟩
   · exact h.elim
 · split at h
   · obtain ⟨rfl, rfl, rfl, rfl, rfl⟩ := h
     obtain ⟨d, hd, rfl⟩ : ∃ d, A0 m _ d ∧ c = slcF _ _ d := hv
     obtain rfl := (A0.rig rfl).1 hd
     exact ⟨_, (A0.rig rfl).2 rfl, rfl⟩
   · obtain ⟨rfl, rfl, rfl, rfl⟩ := h
     obtain rfl : c = .slice none _ _ := hv
     exact ⟨_, (A0.rig rfl).2 rfl, rfl⟩
   · exact h.elim
 · obtain ⟨h1, h2⟩ := chk_ok h
   obtain ⟨rfl, _⟩ := forceV_ok h2
   exact (V0.flat h1).2 ((V0.flat h1).1 hv)
def cov1 (np : Nat) (L : IdMap) (v0 v : Value) : Prop :=
 match v0 with
 | .agg cs0 => match v with | .agg cs => LR (cov0 np L) cs0.toList cs.toList | _ => False
 | .func fn ⟨[]⟩ cs0 => match v with | .func fn' ⟨[]⟩ cs => fn = fn' ∧ LR (cov0 np L) cs0.toList cs.toList | _ => False
 | .func _ ⟨_ :: _⟩ _ => False
 | v0 => chk (leaf v0) (chk (leaf v) (cov0 np L v0 v))
theorem LR.cov {R S S' : Value → Value → Prop} (h : ∀ v0 v c, R v0 v → S v c → S' v0 c) : ∀ {l0 l l' : List Value}, LR R l0 l → LR S l l' → LR S' l0 l'
 | [], [], [], _, _ => trivial
 | _ :: _, _ :: _, _ :: _, x, y => ⟨h _ _ _ x.1 y.1, LR.cov h x.2 y.2⟩
theorem cov1_ok {np : Nat} {L : IdMap} {m : BM} {v0 v c : Value} (h : cov1 np L v0 v) (hv : V1 m v c) : V1 (m.via np L) v0 c := by
 unfold cov1 at h
 split at h
 · split at h
   · obtain ⟨l, hl, rfl⟩ : ∃ l, LR (V0 m) _ l ∧ c = .agg l.toArray := hv
     exact ⟨l, LR.cov (R := cov0 np L) (S := V0 m) (S' := V0 (m.via np L)) (fun _ _ _ a b => cov0_ok a b) h hl, rfl⟩
   · exact h.elim
 · split at h
   · obtain ⟨rfl, h⟩ := h
     obtain ⟨l, hl, rfl⟩ : ∃ l, LR (V0 m) _ l ∧ c = .func _ #[] l.toArray := hv
     exact ⟨l, LR.cov (R := cov0 np L) (S := V0 m) (S' := V0 (m.via np L)) (fun _ _ _ a b => cov0_ok a b) h hl, rfl⟩
   · exact h.elim
 · exact h.elim
 · obtain ⟨h1, h2⟩ := chk_ok h
   obtain ⟨h2, h3⟩ := chk_ok h2
   exact (V1.of0 h1).2 (cov0_ok h3 ((V1.of0 h2).1 hv))
def covR (np : Nat) (L : IdMap) (v0 v : Value) : Prop :=
 match v0 with
 | .tuple cs0 => match v with | .tuple cs => LR (cov1 np L) cs0.toList cs.toList | _ => False
 | v0 => chk (noTup v) (cov1 np L v0 v)
theorem covR_ok {np : Nat} {L : IdMap} {m : BM} {v0 v c : Value} (h : covR np L v0 v) (hv : VR m v c) : VR (m.via np L) v0 c := by
 unfold covR at h
 split at h
 · split at h
   · obtain ⟨l, hl, rfl⟩ := hv.tup
     exact ⟨l, LR.cov (R := cov1 np L) (S := V1 m) (S' := V1 (m.via np L)) (fun _ _ _ a b => cov1_ok a b) h hl, rfl⟩
   · exact h.elim
 · rename_i hn
   obtain ⟨h1, h2⟩ := chk_ok h
   have hn' : noTup v0 = true := by cases v0 <;> first | rfl | exact absurd rfl (hn _)
   exact (VR.of1 hn').2 (cov1_ok h2 ((VR.of1 h1).1 hv))
def covL (np : Nat) (L : IdMap) (cs0 cs : List Value) : Prop := (cs = cs0 ∧ ∀ v ∈ cs0, still1 v = true) ∨ LR (cov1 np L) cs0 cs
theorem covL_flat {np : Nat} {L : IdMap} {cs : List Value} (h : ∀ v ∈ cs, flat1 v = true) : covL np L cs cs := .inl ⟨rfl, fun v hv => still1_flat (h v hv)⟩
theorem covL_still {np : Nat} {L : IdMap} {cs0 cs : List Value} (e : cs = cs0) (h : ∀ v ∈ cs0, still1 v = true) : covL np L cs0 cs := .inl ⟨e, h⟩
theorem still_map {α : Type} {f : α → Value} (h : ∀ a, still1 (f a) = true) (l : List α) : ∀ v ∈ l.map f, still1 v = true := fun v hv => by
 obtain ⟨a, _, rfl⟩ := List.mem_map.1 hv; exact h a
theorem covL_of {np : Nat} {L : IdMap} {cs0 cs : List Value} (e : cs = cs0) (h : ∀ v ∈ cs0, flat1 v = true) : covL np L cs0 cs := .inl ⟨e, fun v hv => still1_flat (h v hv)⟩
theorem covL_each {np : Nat} {L : IdMap} {cs0 cs : List Value} (h : LR (cov1 np L) cs0 cs) : covL np L cs0 cs := .inr h
theorem flat_map {α : Type} {f : α → Value} (h : ∀ a, flat1 (f a) = true) (l : List α) : ∀ v ∈ l.map f, flat1 v = true := fun v hv => by
 obtain ⟨a, _, rfl⟩ := List.mem_map.1 hv; exact h a
theorem flat_nil : ∀ v ∈ ([] : List Value), flat1 v = true := fun v hv => by cases hv
theorem flat_cons {v : Value} {l : List Value} (h : flat1 v = true) (hl : ∀ v ∈ l, flat1 v = true) : ∀ u ∈ v :: l, flat1 u = true := fun u hu => by
 cases hu with
 | head => exact h
 | tail _ hu => exact hl u hu
theorem flat_append {l l' : List Value} (h : ∀ v ∈ l, flat1 v = true) (hl : ∀ v ∈ l', flat1 v = true) : ∀ u ∈ l ++ l', flat1 u = true := fun u hu => by
 rcases List.mem_append.1 hu with hu | hu
 · exact h u hu
 · exact hl u hu
theorem covL_ok {np : Nat} {L : IdMap} {m : BM} {cs0 cs l : List Value} (h : covL np L cs0 cs) (hv : LR (V1 m) cs l) : LR (V1 (m.via np L)) cs0 l := by
 rcases h with ⟨rfl, h⟩ | h
 · have e : ∀ (v c : Value), v ∈ cs → V1 m v c → V1 (m.via np L) v c := fun v c hv' hc => V1.still (h v hv') hc
   clear h
   induction cs generalizing l with
   | nil => cases l with | nil => trivial | cons _ _ => exact hv.elim
   | cons v cs ih =>
    cases l with
    | nil => exact hv.elim
    | cons c l => exact ⟨e v c (by simp) hv.1, ih hv.2 fun u c hu => e u c (by simp [hu])⟩
 · exact LR.cov (R := cov1 np L) (S := V1 m) (S' := V1 (m.via np L)) (fun _ _ _ a b => cov1_ok a b) h hv
theorem covL_nil {np : Nat} {L : IdMap} {cs0 : List Value} (h : covL np L cs0 []) : cs0 = [] := by
 rcases h with ⟨h, _⟩ | h
 · exact h.symm
 · cases cs0 with
   | nil => rfl
   | cons _ _ => exact h.elim
structure CovP (np : Nat) (L : IdMap) (cs0 cs : List Value) : Prop where
 ex : ∃ q, covL np L cs0 (cs.take q)
theorem covP_all {np : Nat} {L : IdMap} {cs0 cs : List Value} (h : covL np L cs0 cs) : CovP np L cs0 cs := ⟨cs.length, by rw [List.take_of_length_le (Nat.le_refl _)]; exact h⟩
theorem covP_take {np : Nat} {L : IdMap} {cs0 cs : List Value} (q : Nat) (h : covL np L cs0 (cs.take q)) : CovP np L cs0 cs := ⟨q, h⟩
structure AbsLe (wr0 : Bool) (S0 : Nat → Prop) (Φ0 : Nat → World → Prop) (wr : Bool) (S : Nat → Prop) (Φ : Nat → World → Prop) : Prop where
 wr : wr0 = true → wr = true
 set : S0 = S
 imp : ∀ g w, Φ g w → Φ0 g w
 st : ∀ g, Stab S (Φ g) → Stab S (Φ0 g)
theorem AbsLe.refl {wr : Bool} {S : Nat → Prop} {Φ : Nat → World → Prop} : AbsLe wr S Φ wr S Φ := ⟨id, rfl, fun _ _ h => h, fun _ => id⟩
def covI (np : Nat) (L : IdMap) (it0 it : Itm) : Prop :=
 match it0 with
 | .own ty cs0 => match it with | .own ty' cs => ty' = ty ∧ covL np L cs0 cs | _ => False
 | .view cs0 => match it with | .view cs => CovP np L cs0 cs | .own _ cs => CovP np L cs0 cs | .row _ _ _ cs => CovP np L cs0 cs | _ => False
 | .row ty size cap cs0 => match it with | .row ty' size' cap' cs => ty' = ty ∧ size' = size ∧ cap' = cap ∧ covL np L cs0 cs | _ => False
 | .lst ty size cap cs0 => match it with
  | .row ty' size' cap' cs => ty' = ty ∧ size' = size ∧ cap' = cap ∧ CovP np L cs0 cs
  | .lst ty' size' cap' cs => ty' = ty ∧ size' = size ∧ cap' = cap ∧ CovP np L cs0 cs
  | _ => False
 | .lview cs0 => match it with
  | .own _ cs => CovP np L cs0 cs
  | .view cs => CovP np L cs0 cs
  | .row _ _ _ cs => CovP np L cs0 cs
  | .lst _ _ _ cs => CovP np L cs0 cs
  | .lview cs => CovP np L cs0 cs
  | _ => False
 | .mp ks0 vs0 => match it with | .mp ks vs => ks = ks0 ∧ covL np L vs0 vs | _ => False
 | .gv g0 o0 => match it with | .gv g o => g = g0 ∧ o = o0 | _ => False
 | .abs wr0 S0 Φ0 => match it with | .abs wr S Φ => AbsLe wr0 S0 Φ0 wr S Φ | _ => False
theorem covI_blk {np : Nat} {L : IdMap} {it0 it : Itm} (h : covI np L it0 it) {g s b : Nat} (hb : it0.blk g s b) : it.blk g s b := by
 cases it0 <;> cases it <;> first | exact h.elim | exact hb | exact (show AbsLe _ _ _ _ _ _ from h).set ▸ hb
theorem RowIs.view {F : Nat → Prop} {B : Nat} {m : BM} {w : World} {g : Nat} {ty : TypeId} {size cap : Nat} {cs : List Value} : RowIs F B m w g ty size cap cs → ViewIs m w g 0 cs :=
 fun ⟨_, _, l, cur, x, y, _, ht, hl⟩ => ⟨lt_of_block y, zero_ne_nilS, l, x, fun j v hj => by
  rw [sh_zero, Nat.zero_add, cell_of_row w g j cur ty (0, 0) y]
  have hlt : j < l.length := by
   rcases Nat.lt_or_ge j l.length with h | h
   · exact h
   · rw [List.getElem?_eq_none h] at hj; cases hj
  rw [← ht, List.getElem?_take, if_pos hlt] at hj
  simpa using hj⟩
theorem ViewIs.cov {np : Nat} {L : IdMap} {m : BM} {w : World} {g s : Nat} {cs0 cs : List Value} (h : CovP np L cs0 cs) : ViewIs m w g s cs → ViewIs (m.via np L) w g s cs0 :=
 fun ⟨a, b, l, x, y⟩ => let ⟨q, hq⟩ := h.ex; ⟨a, b, l.take q, covL_ok hq (x.take q), fun j v hj => y j v (by
  rw [List.getElem?_take] at hj
  split at hj
  · exact hj
  · cases hj)⟩
theorem covP_nil {np : Nat} {L : IdMap} {cs0 : List Value} (h : CovP np L cs0 []) : cs0 = [] := by
 obtain ⟨q, hq⟩ := h.ex
 rw [List.take_nil] at hq
 exact covL_nil hq
theorem RowIs.cov {F : Nat → Prop} {B np : Nat} {L : IdMap} {m : BM} {w : World} {g : Nat} {ty : TypeId} {size cap : Nat} {cs0 cs : List Value} (h : covL np L cs0 cs) : RowIs F B m w g ty size cap cs → RowIs F B (m.via np L) w g ty size cap cs0 :=
 fun ⟨a, b, l, cur, x, y⟩ => ⟨a, b, l, cur, covL_ok h x, y⟩
theorem RowIs.covP {F : Nat → Prop} {B np : Nat} {L : IdMap} {m : BM} {w : World} {g : Nat} {ty : TypeId} {size cap : Nat} {cs0 cs : List Value} (h : CovP np L cs0 cs) : RowIs F B m w g ty size cap cs → RowIs F B (m.via np L) w g ty size cap cs0 := by
 rintro ⟨a, b, l, cur, x, y1, y2, y3, y4⟩
 obtain ⟨q, hq⟩ := h.ex
 refine ⟨a, b, l.take q, cur, covL_ok hq (x.take q), y1, y2, ?_, ?_⟩
 · conv => rhs; rw [← y3]
   rw [List.take_take, List.length_take]
 · rw [List.length_take]; omega
theorem ownView {F : Nat → Prop} {B : Nat} {m : BM} {w : World} {g s : Nat} {ty : TypeId} {cs : List Value} : ItmOk F B m w g s (.own ty cs) → ViewIs m w g s cs := by
 rintro ⟨rfl, _, l, x, y⟩
 exact ⟨y.lt, zero_ne_nilS, l, x, fun j v hj => by rw [y.cell, sh_zero]; simpa using hj⟩
theorem covI_ok {np : Nat} {L : IdMap} {m : BM} {F : Nat → Prop} {B : Nat} {w : World} {g s : Nat} {it0 it : Itm} (h : covI np L it0 it) (ok : ItmOk F B m w g s it) : ItmOk F B (m.via np L) w g s it0 := by
 unfold covI at h
 split at h
 · split at h
   · obtain ⟨rfl, h⟩ := h
     obtain ⟨a, b, l, x, y⟩ := ok
     exact ⟨a, b, l, covL_ok h x, y⟩
   · exact h.elim
 · split at h
   · exact ViewIs.cov h ok
   · exact ViewIs.cov h (ownView ok)
   · obtain ⟨rfl, ok⟩ := ok
     exact ViewIs.cov h ok.view
   · exact h.elim
 · split at h
   · obtain ⟨rfl, rfl, rfl, h⟩ := h
     exact ⟨ok.1, ok.2.cov h⟩
   · exact h.elim
 · split at h
   · obtain ⟨rfl, rfl, rfl, h⟩ := h
     exact .inr ⟨ok.1, ok.2.covP h⟩
   · obtain ⟨rfl, rfl, rfl, h⟩ := h
     rcases ok with ⟨a, b, rfl⟩ | ⟨a, ok⟩
     · exact .inl ⟨a, b, covP_nil h⟩
     · exact .inr ⟨a, ok.covP h⟩
   · exact h.elim
 · split at h
   · exact .inr (ViewIs.cov h (ownView ok))
   · exact .inr (ViewIs.cov h ok)
   · obtain ⟨rfl, ok⟩ := ok
     exact .inr (ViewIs.cov h ok.view)
   · rcases ok with ⟨a, b, rfl⟩ | ⟨rfl, ok⟩
     · exact .inl ⟨a, covP_nil h⟩
     · exact .inr (ViewIs.cov h ok.view)
   · rcases ok with ⟨a, rfl⟩ | ok
     · exact .inl ⟨a, covP_nil h⟩
     · exact .inr (ViewIs.cov h ok)
   · exact h.elim
 · split at h
   · obtain ⟨rfl, h⟩ := h
     obtain ⟨a, b, E, c, x, y, z⟩ := ok
     exact ⟨a, b, E, c, x, y, covL_ok h z⟩
   · exact h.elim
 · split at h
   · obtain ⟨rfl, rfl⟩ := h
     exact ok
   · exact h.elim
 · split at h
   · obtain ⟨a, c, d, e, f⟩ := ok
     obtain ⟨h1, rfl, h2, h3⟩ := h
     exact ⟨a, c, fun hw => d (h1 hw), h3 _ e, h2 _ _ f⟩
   · exact h.elim
theorem covI_mine {np : Nat} {L : IdMap} {it0 it : Itm} (h : covI np L it0 it) (hm : it0.mine = true) : it.mine = true := by
 cases it0 <;> cases it <;> first | exact h.elim | rfl | (cases hm; done) | exact (show AbsLe _ _ _ _ _ _ from h).wr hm
def nilI (it0 : Itm) : Prop := match it0 with | .lst _ _ cap cs0 => cap = 0 ∧ cs0 = [] | .lview cs0 => cs0 = [] | _ => False
theorem nilI_blk {it0 : Itm} (h : nilI it0) {g s b : Nat} (hs : s = nilS) (hb : it0.blk g s b) : False := by
 cases it0 <;> first | exact h.elim | exact hb.1 hs
def subT (np : Nat) (L : IdMap) (t : TM) : TM → Prop
 | [] => True
 | (k, v0) :: r => onS (lkT t k) (fun v => covR np L v0 v) ∧ subT np L t r
def subH (np : Nat) (L : IdMap) (h : HP) : HP → Prop
 | [] => True
 | (i, it0) :: r => (onS (img np L i) fun x => match x with
  | none => nilI it0
  | some b => onS (lkH h b) fun it => covI np L it0 it) ∧ subH np L h r
def okK (np n0 : Nat) (L : IdMap) : Bool := Nat.ble np n0 && L.all (fun x => Nat.blt x.1 n0)
def okI (np : Nat) (L : IdMap) : HP → Bool
 | [] => true
 | (i, _) :: r => (match img np L i with
  | some (some b) => !(r.any fun x => match img np L x.1 with | some (some b') => Nat.beq b b' | _ => false)
  | _ => true) && okI np L r
structure Sub (np : Nat) (T0 : TM) (H0 : HP) (n0 : Nat) (t : TM) (h : HP) (L : IdMap) : Prop where
 ok : okK np n0 L = true
 oki : okI np L H0 = true
 tm : subT np L t T0
 hp : subH np L h H0
theorem Sub.of {np : Nat} {T0 : TM} {H0 : HP} {n0 : Nat} {t : TM} {h : HP} {L : IdMap} (tm : subT np L t T0) (hp : subH np L h H0) (ok : okK np n0 L = true) (oki : okI np L H0 = true) : Sub np T0 H0 n0 t h L := ⟨ok, oki, tm, hp⟩
theorem Sub.q {np : Nat} {T0 : TM} {H0 : HP} {n0 : Nat} {t : TM} {h : HP} {L : IdMap} (x : subT np L t T0 ∧ subH np L h H0) (ok : okK np n0 L = true) (oki : okI np L H0 = true) : Sub np T0 H0 n0 t h L := ⟨ok, oki, x.1, x.2⟩
theorem subT_ok {np : Nat} {L : IdMap} {t : TM} : ∀ {T0 : TM}, subT np L t T0 → ∀ k v0, lkT T0 k = some v0 → ∃ v, lkT t k = some v ∧ covR np L v0 v
 | [], _, k, v, e => by cases e
 | (j, x) :: r, ⟨h1, h2⟩, k, v, e => by
  by_cases hj : j = k
  · subst hj
    have : v = x := by simpa [lkT] using e.symm
    subst this; exact onS_ok h1
  · unfold lkT at e; rw [beq_no hj] at e; exact subT_ok h2 k v e
theorem subH_ok {np : Nat} {L : IdMap} {h : HP} : ∀ {H0 : HP}, subH np L h H0 → ∀ i it0, lkH H0 i = some it0 →
 (img np L i = some none ∧ nilI it0) ∨ ∃ b it, img np L i = some (some b) ∧ lkH h b = some it ∧ covI np L it0 it
 | [], _, k, v, e => by cases e
 | (j, x) :: r, ⟨h1, h2⟩, k, v, e => by
  by_cases hj : j = k
  · subst hj
    have : v = x := by simpa [lkH] using e.symm
    subst this
    obtain ⟨y, hy, h3⟩ := onS_ok h1
    cases y with
    | none => exact .inl ⟨hy, h3⟩
    | some b => obtain ⟨it, hit, h4⟩ := onS_ok h3; exact .inr ⟨b, it, hy, hit, h4⟩
  · unfold lkH at e; rw [beq_no hj] at e; exact subH_ok h2 k v e
theorem lkH_mem : ∀ {h : HP} {i : Nat} {it : Itm}, lkH h i = some it → (i, it) ∈ h
 | (j, x) :: r, i, it, e => by
  unfold lkH at e
  by_cases hj : j = i
  · subst hj
    rw [beq_refl'] at e
    have : x = it := by simpa using e
    subst this; simp
  · rw [beq_no hj] at e
    exact List.mem_cons_of_mem _ (lkH_mem e)
theorem okI_inj {np : Nat} {L : IdMap} : ∀ {H0 : HP}, okI np L H0 = true → ∀ i it j jt b, lkH H0 i = some it → lkH H0 j = some jt → i ≠ j → img np L i = some (some b) → img np L j ≠ some (some b)
 | [], _, i, it, j, jt, b, e, _, _, _, _ => by cases e
 | (k, x) :: r, h, i, it, j, jt, b, e1, e2, hij, h1, h2 => by
  have h' := h
  unfold okI at h
  rw [Bool.and_eq_true] at h
  obtain ⟨ha, hb⟩ := h
  by_cases hk : k = i
  · subst hk
    rw [h1] at ha
    unfold lkH at e2
    rw [beq_no hij] at e2
    have hm := lkH_mem e2
    simp only [Bool.not_eq_true', List.any_eq_false] at ha
    have := ha _ hm
    dsimp only at this
    rw [h2] at this
    exact this (beq_refl' b)
  · by_cases hk2 : k = j
    · subst hk2
      rw [h2] at ha
      unfold lkH at e1
      rw [beq_no (fun x => hij x.symm)] at e1
      have hm := lkH_mem e1
      simp only [Bool.not_eq_true', List.any_eq_false] at ha
      have := ha _ hm
      dsimp only at this
      rw [h1] at this
      exact this (beq_refl' b)
    · unfold lkH at e1 e2
      rw [beq_no hk] at e1
      rw [beq_no hk2] at e2
      exact okI_inj hb i it j jt b e1 e2 hij h1 h2
theorem lkL_mem : ∀ {L : IdMap} {i : Nat} {x : Option Nat}, lkL L i = some x → (i, x) ∈ L
 | (j, y) :: r, i, x, e => by
  unfold lkL at e
  by_cases hj : j = i
  · subst hj
    rw [beq_refl'] at e
    have : y = x := by simpa using e
    subst this; simp
  · rw [beq_no hj] at e
    exact List.mem_cons_of_mem _ (lkL_mem e)
theorem img_lt {np n0 : Nat} {L : IdMap} (h : okK np n0 L = true) {i : Nat} {x : Option Nat} (e : img np L i = some x) : i < n0 := by
 unfold okK at h
 rw [Bool.and_eq_true] at h
 have h1 := Nat.le_of_ble_eq_true h.1
 unfold img at e
 split at e
 · rename_i hb
   have : i + 1 ≤ np := Nat.le_of_ble_eq_true hb
   omega
 · have := List.all_eq_true.1 h.2 _ (lkL_mem e)
   exact Nat.le_of_ble_eq_true this
theorem via_leN (m : BM) (np : Nat) (L : IdMap) : BM.leN np m (m.via np L) := fun i g s hi x => by
 have e : img np L i = some (some i) := by
  unfold img
  rw [show Nat.blt i np = true from Nat.ble_eq_true_of_le hi]
 unfold BM.via
 rw [e]; exact x
theorem HRel.sub {F : Nat → Prop} {B : Nat} {w0 : World} {m : BM} {h H0 : HP} {n n0 np : Nat} {w : World} {L : IdMap} (H : HRel F B w0 m h n w) (ok : okK np n0 L = true) (oki : okI np L H0 = true) (hp : subH np L h H0) : HRel F B w0 (m.via np L) H0 n0 w := by
 refine ⟨H.keep, H.base, ?_, ?_, ?_, ?_⟩
 · intro i g s g' s' x y
   unfold BM.via at x y
   cases e : img np L i with
   | none => rw [e] at x; exact x.elim
   | some z =>
    rw [e] at x y
    cases z with
    | none => obtain ⟨rfl, rfl⟩ := x; obtain ⟨rfl, rfl⟩ := y; exact ⟨rfl, rfl⟩
    | some b => exact H.fn _ _ _ _ _ x y
 · intro i g s x
   unfold BM.via at x
   cases e : img np L i with
   | none => rw [e] at x; exact x.elim
   | some z => exact img_lt ok e
 · intro i it0 e
   rcases subH_ok hp i it0 e with ⟨e1, hn⟩ | ⟨b, it, e1, e2, hc⟩
   · refine ⟨0, nilS, ?_, ?_⟩
     · unfold BM.via; rw [e1]; exact ⟨rfl, rfl⟩
     · cases it0 <;> first | exact hn.elim | skip
       · exact .inl ⟨rfl, hn.1, hn.2⟩
       · exact .inl ⟨rfl, hn⟩
   · obtain ⟨g, s, x, y⟩ := H.dom b it e2
     refine ⟨g, s, ?_, covI_ok hc y⟩
     unfold BM.via; rw [e1]; exact x
 · intro i it0 j jt0 g s1 g' s2 q e1 hm e2 hij x y hb1 hb2
   unfold BM.via at x y
   rcases subH_ok hp i it0 e1 with ⟨c1, hn⟩ | ⟨b, it, c1, d1, v1⟩
   · rw [c1] at x; exact nilI_blk hn x.2 hb1
   · rw [c1] at x
     rcases subH_ok hp j jt0 e2 with ⟨c2, hn⟩ | ⟨b', jt, c2, d2, v2⟩
     · rw [c2] at y; exact nilI_blk hn y.2 hb2
     · rw [c2] at y
       refine H.sep b it b' jt g s1 g' s2 q d1 (covI_mine v1 hm) d2 (fun z => ?_) x y (covI_blk v1 hb1) (covI_blk v2 hb2)
       subst z
       exact okI_inj oki i it0 j jt0 b e1 e2 hij c1 c2
theorem TRel.sub {m : BM} {N np : Nat} {t T0 : TM} {a : Act} {L : IdMap} (ht : TRel m N t a) (s : subT np L t T0) : TRel (m.via np L) N T0 a :=
 ⟨ht.size, fun i v0 e => let ⟨v, hv, hc⟩ := subT_ok s i v0 e; let ⟨c, x, y⟩ := ht.get i v hv; ⟨c, x, covR_ok hc y⟩⟩
theorem TD.sub {ds : List Deferred} {m : BM} {N np : Nat} {t T0 : TM} {a : Act} {L : IdMap} (ht : TD ds m N t a) (s : subT np L t T0) : TD ds (m.via np L) N T0 a := ⟨ht.r.sub s, ht.ds⟩
theorem wp_loop_ghost {P : Program} {Q : Exit → Act → World → Prop} {c : Code} {ι : Type} (I : ι → Act → World → Prop) (μ : ι → Nat)
 (round : ∀ i a w, I i a w → c.wp P (Exit.then (fun a' w' => ∃ i', I i' a' w' ∧ μ i' < μ i) Q) a w) {i0 : ι} {a : Act} {w : World} (h0 : I i0 a w) : (Code.loop c).wp P Q a w := by
 intro b k cs
 have key : ∀ n i a w, μ i = n → I i a w →
  ∃ e a' w', Q e a' w' ∧ Arrives P (lone (b.at a (.code c :: .inLoop c :: k)) cs w) b k cs e a' w' := by
  intro n
  induction n using Nat.strongRecOn with
  | _ n ih =>
   intro i a w hn hI
   obtain ⟨e, a₁, w₁, hq, harr⟩ := round i a w hI b (.inLoop c :: k) cs
   cases e with
   | normal =>
    obtain ⟨i', hI₁, hlt⟩ := hq
    obtain ⟨e₂, a₂, w₂, hq₂, harr₂⟩ := ih (μ i') (hn ▸ hlt) i' a₁ w₁ rfl hI₁
    exact ⟨e₂, a₂, w₂, hq₂, .of_steps (Steps.trans harr (.one step_inLoop)) harr₂⟩
   | exit id => exact ⟨_, a₁, w₁, hq, .pass (x := .inLoop c) rfl (fun _ _ => .inl (by simp)) harr⟩
   | goto l => exact ⟨_, a₁, w₁, hq, .pass (x := .inLoop c) rfl (fun _ _ => .inl (by simp)) harr⟩
   | ret => exact ⟨_, a₁, w₁, hq, .pass (x := .inLoop c) rfl (fun _ _ => .inl (by simp)) harr⟩
   | panic ch => exact ⟨_, a₁, w₁, hq, .pass (x := .inLoop c) rfl (fun _ _ => .inl (by simp)) harr⟩
   | outgrown => exact ⟨_, a₁, w₁, hq, .pass (x := .inLoop c) rfl (fun _ _ => .inl (by simp)) harr⟩
 obtain ⟨e, a', w', hq, harr⟩ := key _ i0 a w rfl h0
 exact ⟨e, a', w', hq, .of_steps (.one step_loop) harr⟩
inductive Again {ι : Type} (np n0 : Nat) (I : ι → TM) (J : ι → HP) (μ : ι → Nat) (R : ι → Prop) (i : ι) (t : TM) (h : HP) : Prop
 | go (i' : ι) (hR : R i') (hlt : μ i' < μ i) (L : IdMap) (s : Sub np (I i') (J i') n0 t h L) : Again np n0 I J μ R i t h
 | no (hx : False) : Again np n0 I J μ R i t h
theorem loop_rule {P : Program} {T : Tab} (hT : TabOk P T) (hmix : P.follows .mixedOrders = true) {N np : Nat} (pl : Plans) {c : Code} {K : KT} {t : TM} {h : HP} {n : Nat}
 {ι : Type} (n0 : Nat) (I : ι → TM) (J : ι → HP) (μ : ι → Nat) (R : ι → Prop) (i0 : ι) (h0 : R i0) (hs : ∃ L, Sub np (I i0) (J i0) n0 t h L)
 (round : ∀ i, R i → vc P T N np pl c (fun e t' h' n' => match e with | .normal => Again np n0 I J μ R i t' h' | e => K e t' h' n') (I i) (J i) n0) : LoopOb P N np c K t h n := by
 refine ⟨fun ds F B w0 m w a H ht => ?_⟩
 obtain ⟨L, s⟩ := hs
 refine wp_loop_ghost (fun i a w => R i ∧ ∃ m', BM.leN np m m' ∧ HRel F B w0 m' (J i) n0 w ∧ TD ds m' N (I i) a) μ (fun i a w hI => ?_) (i0 := i0) ⟨h0, _, via_leN m np L, H.sub s.ok s.oki s.hp, ht.sub s.tm⟩
 obtain ⟨hR, m1, hm1, H1, ht1⟩ := hI
 refine wp_mono (vc_ok hT hmix (round i hR) ds F B w0 m1 w a H1 ht1) fun e a' w' hq => ?_
 obtain ⟨hn, m', t', h', n', hm2, H', ht', hK⟩ := hq
 have hm := BM.leN_trans hm1 hm2
 cases e with
 | normal =>
  cases hK with
  | no h => exact h.elim
  | go i' hR' hlt L' s' =>
  exact ⟨i', ⟨hR', _, BM.leN_trans hm (via_leN m' np L'), H'.sub s'.ok s'.oki s'.hp, ht'.sub s'.tm⟩, hlt⟩
 | exit id => exact ⟨rfl, m', t', h', n', hm, H', ht', hK⟩
 | goto l => exact ⟨rfl, m', t', h', n', hm, H', ht', hK⟩
 | ret => exact ⟨rfl, m', t', h', n', hm, H', ht', hK⟩
 | panic ch => cases hn
 | outgrown => exact ⟨rfl, m', t', h', n', hm, H', ht', hK⟩
def loopN (P : Program) (T : Tab) (N np : Nat) (pl : Plans) (c : Code) (K : KT) : Nat → TM → HP → Nat → Prop := fun k =>
 Nat.rec (motive := fun _ => TM → HP → Nat → Prop) (fun _ _ _ => False)
  (fun _ ih t h n => vc P T N np pl c (fun e t h n => match e with | .normal => ih t h n | e => K e t h n) t h n) k
theorem loop_fuel {P : Program} {T : Tab} (hT : TabOk P T) (hmix : P.follows .mixedOrders = true) {N np : Nat} (pl : Plans) {c : Code} {K : KT} {t : TM} {h : HP} {n : Nat} (k : Nat) (hv : loopN P T N np pl c K k t h n) : LoopOb P N np c K t h n := by
 refine ⟨fun ds F B w0 m w a H ht => ?_⟩
 refine wp_loop_ghost (ι := Nat × TM × HP × Nat) (fun i a w => loopN P T N np pl c K i.1 i.2.1 i.2.2.1 i.2.2.2 ∧ ∃ m', BM.leN np m m' ∧ HRel F B w0 m' i.2.2.1 i.2.2.2 w ∧ TD ds m' N i.2.1 a) (fun i => i.1) (fun i a w hI => ?_) (i0 := (k, t, h, n)) ⟨hv, _, BM.leN_refl _ m, H, ht⟩
 obtain ⟨k, t, h, n⟩ := i
 obtain ⟨hv, m1, hm1, H1, ht1⟩ := hI
 dsimp only at hv H1 ht1
 cases k with
 | zero => exact hv.elim
 | succ k =>
  refine wp_mono (vc_ok hT hmix hv ds F B w0 m1 w a H1 ht1) fun e a' w' hq => ?_
  obtain ⟨hn, m', t', h', n', hm2, H', ht', hK⟩ := hq
  have hm := BM.leN_trans hm1 hm2
  cases e with
  | normal => exact ⟨(k, t', h', n'), ⟨hK, _, hm, H', ht'⟩, Nat.lt_succ_self k⟩
  | exit id => exact ⟨rfl, m', t', h', n', hm, H', ht', hK⟩
  | goto l => exact ⟨rfl, m', t', h', n', hm, H', ht', hK⟩
  | ret => exact ⟨rfl, m', t', h', n', hm, H', ht', hK⟩
  | panic ch => cases hn
  | outgrown => exact ⟨rfl, m', t', h', n', hm, H', ht', hK⟩
def resV (T : Tab) (t : TM) (h : HP) : List ResultVar → (List Value → Prop) → Prop
 | [], K => K []
 | .tmp i :: r, K => onS (lkT t i) fun v => match noTup v with | true => resV T t h r fun vs => K (v :: vs) | false => False
 | .cell i ty :: r, K => onS (lkT t i) fun p => vcLoad T h ty p fun v => resV T t h r fun vs => K (v :: vs)
def packV : List Value → Value
 | [v] => v
 | vs => .tuple vs.toArray
def retK (T : Tab) (rs : List ResultVar) (Post : Value → HP → Nat → Prop) : KT := fun e t h n =>
 match e with
 | .normal => resV T t h rs fun vs => Post (packV vs) h n
 | .ret => resV T t h rs fun vs => Post (packV vs) h n
 | _ => False
theorem resV_ok {P : Program} {T : Tab} (hT : TabOk P T) {t : TM} {h : HP} : ∀ {rs : List ResultVar} {K : List Value → Prop}, resV T t h rs K → ∀ {F : Nat → Prop} {B : Nat} {w0 : World} {m : BM} {n N : Nat} {w : World} {a : Act},
 HRel F B w0 m h n w → TRel m N t a → ∃ vs cs, K vs ∧ LR (V1 m) vs cs ∧ (∀ v ∈ vs, noTup v = true) ∧ (rs.mapM (fun | .tmp t => pure (a.tmps.getD t undef) | .cell b ty => do loadVar ty (← asAddr (a.tmps.getD b undef))) : Sem (List Value)).run P w = .ok cs w
 | [], K, hv, F, B, w0, m, n, N, w, a, H, ht => ⟨[], [], hv, trivial, fun v hv => (by cases hv), by simp⟩
 | .tmp i :: r, K, hv, F, B, w0, m, n, N, w, a, H, ht => by
  obtain ⟨v, hv1, h2⟩ := onS_ok hv
  split at h2
  · rename_i hn
    obtain ⟨vs, cs, hk, hl, hlen, hr⟩ := resV_ok hT h2 H ht
    obtain ⟨c, hc, hvc⟩ := ht.get i v hv1
    refine ⟨v :: vs, c :: cs, hk, ⟨(VR.of1 hn).1 hvc, hl⟩, fun x hx => (by cases hx with | head => exact hn | tail _ hx => exact hlen x hx), ?_⟩
    rw [List.mapM_cons]
    simp only [Sem.run_bind, Sem.run_pure, Result.andThen_ok, hr]
    simp [Array.getD_eq_getD_getElem?, hc]
  · exact h2.elim
 | .cell i ty :: r, K, hv, F, B, w0, m, n, N, w, a, H, ht => by
  obtain ⟨p, hp, h2⟩ := onS_ok hv
  obtain ⟨u, hk, hn, hu⟩ := vcLoad_ok hT h2
  obtain ⟨vs, cs, hk, hl, hlen, hr⟩ := resV_ok hT hk H ht
  obtain ⟨c, hc, hvc⟩ := ht.get i p hp
  obtain ⟨d, hd, hrun⟩ := hu F B w0 m n w c H hvc
  refine ⟨u :: vs, d :: cs, hk, ⟨(VR.of1 hn).1 hd, hl⟩, fun x hx => (by cases hx with | head => exact hn | tail _ hx => exact hlen x hx), ?_⟩
  have hc' : a.tmps.getD i undef = c := by simp [Array.getD_eq_getD_getElem?, hc]
  have hload : (asAddr c >>= fun a => loadVar ty a).run P w = .ok d w := by
   unfold vcLoad at h2
   split at h2
   · obtain ⟨b, _, rfl⟩ := hvc.ptr
     simpa [Instr.loadAt, Instr.sureAddr, asAddr] using hrun
   · obtain ⟨b, _, rfl⟩ := hvc.ptr
     simpa [Instr.loadAt, Instr.sureAddr, asAddr] using hrun
   · exact h2.elim
  rw [List.mapM_cons]
  simp only [Sem.run_bind] at hload ⊢
  rw [hc', hload]
  simp only [Result.andThen_ok, hr, Sem.run_pure]
theorem packV_rel {m : BM} {vs cs : List Value} (h : LR (V1 m) vs cs) (h1 : ∀ v, vs = [v] → noTup v = true) : VR m (packV vs) (if hh : cs.toArray.size = 1 then cs.toArray[0] else .tuple cs.toArray) := by
 match vs, cs, h with
 | [], [], _ => exact ⟨[], trivial, rfl⟩
 | [v], [c], h => exact (VR.of1 (h1 v rfl)).2 h.1
 | u :: v :: vs, c :: d :: cs, h => exact ⟨c :: d :: cs, h, rfl⟩
def bodyOf (fn : Func) : Code := match fn.body with | some c => c | none => .skip
theorem bodyOf_eq {fn : Func} (h : fn.body.isSome = true) : fn.body = some (bodyOf fn) := by
 unfold bodyOf; cases e : fn.body with
 | none => rw [e] at h; cases h
 | some c => rfl
def zipT : Nat → List Value → TM
 | _, [] => []
 | k, v :: vs => (k, v) :: zipT (k + 1) vs
theorem lkT_zip : ∀ {l : List Value} {k i : Nat} {v : Value}, lkT (zipT k l) i = some v → k ≤ i ∧ l[i - k]? = some v
 | [], k, i, v, e => by cases e
 | u :: l, k, i, v, e => by
  unfold zipT lkT at e
  by_cases hk : k = i
  · subst hk
    have : u = v := by simpa using e
    subst this
    exact ⟨Nat.le_refl _, by simp⟩
  · rw [beq_no hk] at e
    obtain ⟨h1, h2⟩ := lkT_zip (l := l) (k := k + 1) e
    refine ⟨by omega, ?_⟩
    rw [show i - k = (i - (k + 1)) + 1 by omega]
    simpa using h2
theorem calls_vc {P : Program} {T : Tab} (hT : TabOk P T) (hmix : P.follows .mixedOrders = true) {f : FuncId} {fn : Func} (hf : P.funcs[f]? = some fn) (hb : fn.body.isSome = true) (pl : Plans)
 {args cs : List Value} {F : Nat → Prop} {B : Nat} {w0 : World} {m : BM} {h : HP} {n : Nat} {w : World} (H : HRel F B w0 m h n w) (hargs : LR (VR m) args cs) (np : Nat) (hN : args.length ≤ fn.ntmps)
 {Post : Value → HP → Nat → Prop} (hv : vc P T fn.ntmps np pl (bodyOf fn) (retK T fn.results.toList Post) (zipT 0 args) h n) :
 Calls P f cs.toArray w fun e w' => ∃ m' v c h' n', e = .returned c ∧ BM.leN np m m' ∧ VR m' v c ∧ HRel F B w0 m' h' n' w' ∧ Post v h' n' := by
 refine calls_of_wp hf (bodyOf_eq hb) (wp_mono (vc_ok hT hmix hv [] F B w0 m w _ H ⟨⟨?_, ?_⟩, rfl⟩) ?_)
 · have := hargs.length
   simp; omega
 · intro i v e
   obtain ⟨_, e⟩ := lkT_zip e
   obtain ⟨c, hc, hv⟩ := hargs.get e
   refine ⟨c, ?_, hv⟩
   rw [Nat.sub_zero] at hc
   have hlt : i < cs.length := by
    rcases Nat.lt_or_ge i cs.length with h | h
    · exact h
    · rw [List.getElem?_eq_none h] at hc; cases hc
   rw [Array.getElem?_append_left (by simpa using hlt)]
   simpa using hc
 · rintro e a w' ⟨hn, m', t, h', n', hm, H', ht, hk⟩
   have fin : resV T t h' fn.results.toList (fun vs => Post (packV vs) h' n') → ∃ v, (results fn a.tmps).run P w' = .ok v w' ∧ ∃ m' v2 c h' n', Ending.returned v = .returned c ∧ BM.leN np m m' ∧ VR m' v2 c ∧ HRel F B w0 m' h' n' w' ∧ Post v2 h' n' := by
    intro hr
    obtain ⟨vs, cs, hk, hl, hnt, hrun⟩ := resV_ok hT hr H' ht.r
    refine ⟨_, ?_, m', _, _, h', n', rfl, hm, packV_rel hl (fun v e => hnt v (by rw [e]; simp)), H', hk⟩
    unfold results
    rw [Array.mapM_eq_mapM_toList]
    simp only [Sem.run_bind, Sem.run_map]
    erw [hrun]
    rfl
   cases e with
   | normal =>
    obtain ⟨v, hr, hp⟩ := fin hk
    exact ⟨ht.ds, v, hr, hp⟩
   | ret =>
    obtain ⟨v, hr, hp⟩ := fin hk
    exact ⟨ht.ds, v, hr, hp⟩
   | exit id => exact hk.elim
   | goto l => exact hk.elim
   | panic ch => cases hn
   | outgrown => exact hk.elim
theorem BM.le_of_leN {F : Nat → Prop} {B : Nat} {w0 : World} {m m' : BM} {h : HP} {n : Nat} {w : World} (H : HRel F B w0 m h n w) (hm : BM.leN n m m') : m.le m' := fun i g s x => hm i g s (H.fresh _ _ _ x) x
theorem call_inline {P : Program} {T : Tab} (hT : TabOk P T) (hmix : P.follows .mixedOrders = true) {f : FuncId} {fn : Func} (hok : FnOk P f) (hf : P.funcs[f]? = some fn) (hb : fn.body.isSome = true) (pl : Plans)
 {args : List Value} {h : HP} {n : Nat} {K : Value → HP → Nat → Prop} (hN : args.length ≤ fn.ntmps)
 (hv : vc P T fn.ntmps n pl (bodyOf fn) (retK T fn.results.toList K) (zipT 0 args) h n) : CallOb P f args h n K :=
 ⟨hok, fun F B w0 m w cs H ha => (calls_vc hT hmix hf hb pl H ha n hN hv).mono fun e w' ⟨m', v, c, h', n', he, hm, r⟩ => ⟨m', v, c, h', n', he, BM.le_of_leN H hm, r⟩⟩
theorem LR.flat {m : BM} : ∀ {l : List Value}, l.all flatR = true → LR (VR m) l l
 | [], _ => trivial
 | v :: l, h => by
  simp only [List.all_cons, Bool.and_eq_true] at h
  exact ⟨VR.same h.1, LR.flat h.2⟩
theorem LR.flat_eq {m : BM} : ∀ {l l' : List Value}, l.all flatR = true → LR (VR m) l l' → l' = l
 | [], [], _, _ => rfl
 | v :: l, c :: l', h, x => by
  simp only [List.all_cons, Bool.and_eq_true] at h
  rw [(VR.flat h.1).1 x.1, LR.flat_eq h.2 x.2]
theorem call_pure {P : Program} {f : FuncId} (hok : FnOk P f) {args : List Value} {h : HP} {n : Nat} {K : Value → HP → Nat → Prop} {v : Value} (hc : ∀ w, Calls P f args.toArray w fun e w' => e = .returned v ∧ Below w.heap.size w w')
 (ha : args.all flatR = true) (hv : flatR v = true) (hk : K v h n) : CallOb P f args h n K :=
 ⟨hok, fun F B w0 m w cs H hcs => by
  rw [LR.flat_eq ha hcs]
  refine (hc w).mono ?_
  rintro e w' ⟨rfl, hb⟩
  exact ⟨m, v, v, h, n, rfl, BM.le_refl m, VR.same hv, H.later hb, hk⟩⟩
theorem call_same {P : Program} {f : FuncId} (hok : FnOk P f) {args : List Value} {h : HP} {n : Nat} {K : Value → HP → Nat → Prop} {v : Value} (hc : ∀ w, Calls P f args.toArray w fun e w' => e = .returned v ∧ w = w')
 (ha : args.all flatR = true) (hv : flatR v = true) (hk : K v h n) : CallOb P f args h n K :=
 call_pure hok (fun w => (hc w).mono fun _ _ ⟨e, h⟩ => ⟨e, h ▸ Below.refl _ _⟩) ha hv hk
theorem HRel.start (w : World) : HRel (fun _ => False) w.heap.size w (fun _ _ _ => False) [] 0 w :=
 ⟨Keep.refl _ _ _, Nat.le_refl _, fun _ _ _ _ _ h => h.elim, fun _ _ _ h => h.elim, fun _ _ e => (by cases e), fun _ _ _ _ _ _ _ _ _ e => (by cases e)⟩
theorem calls_pure {P : Program} {T : Tab} (hT : TabOk P T) (hmix : P.follows .mixedOrders = true) {f : FuncId} {fn : Func} (hf : P.funcs[f]? = some fn) (hb : fn.body.isSome = true) (pl : Plans)
 (args : List Value) (ha : args.all flatR = true) (hN : args.length ≤ fn.ntmps) {v : Value} (hfv : flatR v = true)
 (hv : vc P T fn.ntmps 0 pl (bodyOf fn) (retK T fn.results.toList fun u _ _ => u = v) (zipT 0 args) [] 0) (w : World) :
 Calls P f args.toArray w fun e w' => e = .returned v ∧ Below w.heap.size w w' :=
 (calls_vc hT hmix hf hb pl (HRel.start w) (LR.flat ha) 0 hN hv).mono fun e w' ⟨m', u, c, h', n', he, _, hu, H, hp⟩ => by
  subst hp
  rw [he, (VR.flat hfv).1 hu]
  exact ⟨rfl, H.keep.below⟩
theorem w64 {x : Int} (h0 : -9223372036854775808 ≤ x) (h1 : x ≤ 9223372036854775807) : x = IntKind.i64.wrap x := by rw [IntKind.wrap_i64]; omega
theorem w64b (b : UInt8) : ((b.toNat : Nat) : Int) = IntKind.i64.wrap ((b.toNat : Nat) : Int) := w64 (by omega) (by have := b.toNat_lt; omega)
theorem wu64 {x : Int} (h0 : 0 ≤ x) (h1 : x ≤ 18446744073709551615) : x = IntKind.u64.wrap x := by rw [IntKind.wrap_u64]; omega
theorem wu8 {x : Int} (h0 : 0 ≤ x) (h1 : x ≤ 255) : x = IntKind.u8.wrap x := by rw [IntKind.wrap_u8]; omega
theorem wu32 {x : Int} (h0 : 0 ≤ x) (h1 : x ≤ 4294967295) : x = IntKind.u32.wrap x := by rw [IntKind.wrap_u32]; omega
end Go.Proofs.YtelolcagncgfpaaGreat
