/- A generator of conditions for a walk, part 19: what stands in many blocks: opened, closed; states told otherwise ahead of calls, behind them, and at the heads of loops. No program in sight. -/
import Derived.Test.YtcojbjakopkfbaaGreatEngN
import Derived.Test.YtcojbjakopkfbaaGreatEngV
namespace Go.Proofs.YtcojbjakopkfbaaGreat
open Go.RowKit
set_option linter.unusedSimpArgs false
set_option linter.unusedVariables false
theorem CallOb.conv {P : Program} {f : FuncId} {args : List Value} {h : HP} {n : Nat} {K1 K : Value → HP → Nat → Prop} (C : CallOb P f args h n K1)
 (hc : ∀ v h1 n1, K1 v h1 n1 → ∀ F B w0 m w c, HRel F B w0 m h1 n1 w → VR m v c → ∃ m' v' h2 n2, m.le m' ∧ VR m' v' c ∧ HRel F B w0 m' h2 n2 w ∧ K v' h2 n2) : CallOb P f args h n K :=
 ⟨C.fn, fun F B w0 m w cs H hcs => (C.run F B w0 m w cs H hcs).mono fun e w' ⟨m1, v, c, h1, n1, he, hm, hv, H1, hk⟩ =>
  let ⟨m2, v', h2, n2, hm2, hv2, H2, hk2⟩ := hc v h1 n1 hk F B w0 m1 w' c H1 hv
  ⟨m2, v', c, h2, n2, he, BM.le_trans hm hm2, hv2, H2, hk2⟩⟩
theorem CallOb.mono {P : Program} {f : FuncId} {args : List Value} {h : HP} {n : Nat} {K1 K : Value → HP → Nat → Prop} (C : CallOb P f args h n K1) (hc : ∀ v h1 n1, K1 v h1 n1 → K v h1 n1) : CallOb P f args h n K :=
 C.conv fun v h1 n1 hk F B w0 m w c H hv => ⟨m, v, h1, n1, BM.le_refl m, hv, H, hc _ _ _ hk⟩
theorem CallOb.pre {P : Program} {f : FuncId} (hok : FnOk P f) {args : List Value} {h : HP} {n : Nat} {K : Value → HP → Nat → Prop}
 (hc : ∀ F B w0 m w cs, HRel F B w0 m h n w → LR (VR m) args cs → ∃ m' args' h' n', m.le m' ∧ HRel F B w0 m' h' n' w ∧ LR (VR m') args' cs ∧ CallOb P f args' h' n' K) : CallOb P f args h n K :=
 ⟨hok, fun F B w0 m w cs H hcs =>
  let ⟨m', args', h', n', hm, H', hcs', C⟩ := hc F B w0 m w cs H hcs
  (C.run F B w0 m' w cs H' hcs').mono fun e w' ⟨m1, v, c, h1, n1, he, hm1, r⟩ => ⟨m1, v, c, h1, n1, he, BM.le_trans hm hm1, r⟩⟩
theorem call_raw {P : Program} {f : FuncId} (hok : FnOk P f) {args : List Value} {h : HP} {n : Nat} {K : Value → HP → Nat → Prop} {v : Value}
 (hc : ∀ F B w0 m w cs, HRel F B w0 m h n w → LR (VR m) args cs → Calls P f cs.toArray w fun e w' => ∃ c, e = .returned c ∧ VR m v c ∧ Below w.heap.size w w') (hk : K v h n) : CallOb P f args h n K :=
 ⟨hok, fun F B w0 m w cs H hcs => (hc F B w0 m w cs H hcs).mono fun e w' ⟨c, he, hv, hb⟩ => ⟨m, v, c, h, n, he, BM.le_refl m, hv, H.later hb, hk⟩⟩
inductive AgainS {ι : Type} (N np n0 : Nat) (I : ι → TM) (J : ι → HP) (μ : ι → Nat) (R : ι → Prop) (i : ι) (t : TM) (h : HP) (n : Nat) : Prop
 | go (hg : ∀ F B w0 m w a, HRel F B w0 m h n w → TRel m N t a → ∃ i' m', R i' ∧ μ i' < μ i ∧ BM.leN np m m' ∧ HRel F B w0 m' (J i') n0 w ∧ TRel m' N (I i') a) : AgainS N np n0 I J μ R i t h n
 | no (hx : False) : AgainS N np n0 I J μ R i t h n
theorem loop_sem {P : Program} {T : Tab} (hT : TabOk P T) (hmix : P.follows .mixedOrders = true) {N np : Nat} (pl : Plans) {c : Code} {K : KT} {t : TM} {h : HP} {n : Nat}
 {ι : Type} (n0 : Nat) (I : ι → TM) (J : ι → HP) (μ : ι → Nat) (R : ι → Prop)
 (hs : ∀ F B w0 m w a, HRel F B w0 m h n w → TRel m N t a → ∃ i0 m', R i0 ∧ BM.leN np m m' ∧ HRel F B w0 m' (J i0) n0 w ∧ TRel m' N (I i0) a)
 (round : ∀ i, R i → vc P T N np pl c (fun e t' h' n' => match e with | .normal => AgainS N np n0 I J μ R i t' h' n' | e => K e t' h' n') (I i) (J i) n0) : LoopOb P N np c K t h n := by
 refine ⟨fun ds F B w0 m w a H ht => ?_⟩
 obtain ⟨i0, m0, h0, hle, H0, ht0⟩ := hs F B w0 m w a H ht.r
 refine wp_loop_ghost (fun i a w => R i ∧ ∃ m', BM.leN np m m' ∧ HRel F B w0 m' (J i) n0 w ∧ TD ds m' N (I i) a) μ (fun i a w hI => ?_) (i0 := i0) ⟨h0, m0, hle, H0, ⟨ht0, ht.ds⟩⟩
 obtain ⟨hR, m1, hm1, H1, ht1⟩ := hI
 refine wp_mono (vc_ok hT hmix (round i hR) ds F B w0 m1 w a H1 ht1) fun e a' w' hq => ?_
 obtain ⟨hn, m', t', h', n', hm2, H', ht', hK⟩ := hq
 have hm := BM.leN_trans hm1 hm2
 cases e with
 | normal =>
  cases hK with
  | no h => exact h.elim
  | go hg =>
  obtain ⟨i', m2, hR', hlt, hle2, H2, ht2⟩ := hg F B w0 m' w' a' H' ht'.r
  exact ⟨i', ⟨hR', m2, BM.leN_trans hm hle2, H2, ⟨ht2, ht'.ds⟩⟩, hlt⟩
 | exit id => exact ⟨rfl, m', t', h', n', hm, H', ht', hK⟩
 | goto l => exact ⟨rfl, m', t', h', n', hm, H', ht', hK⟩
 | ret => exact ⟨rfl, m', t', h', n', hm, H', ht', hK⟩
 | panic ch => cases hn
 | outgrown => exact ⟨rfl, m', t', h', n', hm, H', ht', hK⟩
structure HAcc (F : Nat → Prop) (B : Nat) (w0 : World) (m : BM) (h : HP) (n : Nat) (w : World) (U : Nat → Prop) : Prop where
 H : HRel F B w0 m h n w
 cov : ∀ i it g s b, lkH h i = some it → m i g s → it.blk g s b → U b
theorem HAcc.add {F : Nat → Prop} {B : Nat} {w0 : World} {m : BM} {h : HP} {n : Nat} {w : World} {U : Nat → Prop} (A : HAcc F B w0 m h n w U) (g s : Nat) (it : Itm)
 (ok : ItmOk F B (m.put n g s) w g s it) (hd : ∀ b, it.blk g s b → ¬ U b) : HAcc F B w0 (m.put n g s) ((n, it) :: h) (n + 1) w (fun b => U b ∨ it.blk g s b) := by
 obtain ⟨H, cov⟩ := A
 have old : ∀ i g' s, m i g' s → i ≠ n := fun i g' s x e => by have := H.fresh i g' s x; omega
 have look : ∀ k kt, lkH ((n, it) :: h) k = some kt → k ≠ n → lkH h k = some kt := fun k kt e hk => by
  unfold lkH at e
  rwa [beq_no fun x => hk x.symm] at e
 have here : ∀ kt, lkH ((n, it) :: h) n = some kt → kt = it := fun kt e => by simpa [lkH] using e.symm
 refine ⟨⟨H.keep, H.base, ?_, ?_, ?_, ?_⟩, ?_⟩
 · rintro i a s a' s' (x | ⟨rfl, rfl, rfl⟩) (y | ⟨e, rfl, rfl⟩)
   · exact H.fn _ _ _ _ _ x y
   · exact absurd e (old _ _ _ x)
   · exact absurd rfl (old _ _ _ y)
   · exact ⟨rfl, rfl⟩
 · rintro i a s (x | ⟨rfl, -, -⟩)
   · have := H.fresh _ _ _ x; omega
   · omega
 · intro i it' e
   by_cases hin : i = n
   · subst hin
     obtain rfl := here it' e
     exact ⟨g, s, .inr ⟨rfl, rfl, rfl⟩, ok⟩
   · obtain ⟨g', s', x, y⟩ := H.dom i it' (look i it' e hin)
     exact ⟨g', s', .inl x, y.mono (BM.le_put m n g s)⟩
 · intro i it' j jt a s1 a2 s2 b e1 hm e2 hij x y hb1 hb2
   rcases x with x | ⟨rfl, rfl, rfl⟩
   · have e1' := look i it' e1 (old _ _ _ x)
     rcases y with y | ⟨rfl, rfl, rfl⟩
     · exact H.sep i it' j jt a s1 a2 s2 b e1' hm (look j jt e2 (old _ _ _ y)) hij x y hb1 hb2
     · obtain rfl := here jt e2
       exact hd b hb2 (cov _ _ _ _ _ e1' x hb1)
   · obtain rfl := here it' e1
     rcases y with y | ⟨e, -, -⟩
     · exact hd b hb1 (cov _ _ _ _ _ (look j jt e2 (old _ _ _ y)) y hb2)
     · exact absurd e.symm hij
 · intro i it' a s1 b e x hb
   rcases x with x | ⟨rfl, rfl, rfl⟩
   · exact .inl (cov _ _ _ _ _ (look i it' e (old _ _ _ x)) x hb)
   · obtain rfl := here it' e
     exact .inr hb
theorem HAcc.give {F : Nat → Prop} {B : Nat} {w0 : World} {m : BM} {h : HP} {n : Nat} {w : World} {U : Nat → Prop} (A : HAcc F B w0 m h n w U) {k g s : Nat} (hm : m k g s) (hk : lkH h k = none) (it : Itm)
 (ok : ItmOk F B m w g s it) (hd : ∀ b, it.blk g s b → ¬ U b) : HAcc F B w0 m ((k, it) :: h) n w (fun b => U b ∨ it.blk g s b) := by
 obtain ⟨H, cov⟩ := A
 have look : ∀ j jt, lkH ((k, it) :: h) j = some jt → (j = k ∧ jt = it) ∨ (j ≠ k ∧ lkH h j = some jt) := fun j jt e => by
  by_cases hj : k = j
  · subst hj
    exact .inl ⟨rfl, by simpa [lkH] using e.symm⟩
  · unfold lkH at e
    rw [beq_no hj] at e
    exact .inr ⟨fun z => hj z.symm, e⟩
 refine ⟨⟨H.keep, H.base, H.fn, H.fresh, fun j jt e => ?_, fun i it1 j jt a s1 a2 s2 b e1 hm1 e2 hij x y hb1 hb2 => ?_⟩, fun j jt a s1 b e x hb => ?_⟩
 · rcases look j jt e with ⟨rfl, rfl⟩ | ⟨_, e'⟩
   · exact ⟨g, s, hm, ok⟩
   · exact H.dom j jt e'
 · rcases look i it1 e1 with ⟨rfl, rfl⟩ | ⟨hi, e1'⟩
   · obtain ⟨rfl, rfl⟩ := H.fn _ _ _ _ _ x hm
     rcases look j jt e2 with ⟨rfl, rfl⟩ | ⟨hj, e2'⟩
     · exact hij rfl
     · exact hd b hb1 (cov _ _ _ _ _ e2' y hb2)
   · rcases look j jt e2 with ⟨rfl, rfl⟩ | ⟨hj, e2'⟩
     · obtain ⟨rfl, rfl⟩ := H.fn _ _ _ _ _ y hm
       exact hd b hb2 (cov _ _ _ _ _ e1' x hb1)
     · exact H.sep i it1 j jt a s1 a2 s2 b e1' hm1 e2' hij x y hb1 hb2
 · rcases look j jt e with ⟨rfl, rfl⟩ | ⟨_, e'⟩
   · obtain ⟨rfl, rfl⟩ := H.fn _ _ _ _ _ x hm
     exact .inr hb
   · exact .inl (cov _ _ _ _ _ e' x hb)
theorem HRel.name {F : Nat → Prop} {B : Nat} {w0 : World} {m : BM} {h : HP} {n : Nat} {w : World} (H : HRel F B w0 m h n w) (g s : Nat) : HRel F B w0 (m.put n g s) h (n + 1) w := by
 refine H.up (BM.le_put _ _ _ _) ?_ ?_
 · rintro i a s a' s' (x | ⟨rfl, rfl, rfl⟩) (y | ⟨e, rfl, rfl⟩)
   · exact H.fn _ _ _ _ _ x y
   · have := H.fresh _ _ _ x; omega
   · have := H.fresh _ _ _ y; omega
   · exact ⟨rfl, rfl⟩
 · rintro i a s (x | ⟨rfl, -, -⟩)
   · have := H.fresh _ _ _ x; omega
   · omega
theorem HRel.none {F : Nat → Prop} {B : Nat} {w0 : World} {m : BM} {h : HP} {n : Nat} {w : World} (H : HRel F B w0 m h n w) {k : Nat} (hk : n ≤ k) : lkH h k = none := by
 cases e : lkH h k with
 | none => rfl
 | some it => obtain ⟨g, s, x, _⟩ := H.dom k it e; have := H.fresh _ _ _ x; omega
theorem lkH_up_none {h : HP} {i k : Nat} {it it' : Itm} (e : lkH h i = some it) (hk : lkH h k = none) : lkH (upH h i it') k = none := by
 rw [lkH_up e]
 by_cases hi : k = i
 · subst hi; rw [hk] at e; cases e
 · rw [if_neg hi]; exact hk
abbrev rp (g : Nat) (o : Nat := 0) : Value := .pointer (some ⟨g, o, some 1⟩)
theorem rigLd_abs {T : Tab} {h : HP} {ty : TypeId} {g o i : Nat} {u : Value} {wr : Bool} {S : Nat → Prop} {Φ : Nat → World → Prop} (e : lkH h i = some (.abs wr S Φ))
 (hr : ∃ r, lkR T ty = some r ∧ r.ty.agg = false) (hf : flat1 u = true) (hn : noTup u = true) (hc : ∀ q w, Φ q w → w.cell? ⟨g, o, none⟩ = some u) : RigLd T h ty g o u :=
 ⟨[u], let ⟨r, h1, h2⟩ := hr; ⟨r, h1, .inl ⟨h2, rfl, hn⟩⟩, fun F B w0 m n w H => by
  obtain ⟨g', s, _, ok⟩ := H.dom i _ e
  refine ⟨[u], ⟨(V1.flat hf).2 rfl, trivial⟩, fun j v hj => ?_⟩
  match j, hj with
  | 0, hj => cases hj; exact hc _ _ ok.2.2.2.2
  | j + 1, hj => simp at hj⟩
theorem HRel.place {F : Nat → Prop} {B : Nat} {w0 : World} {m : BM} {h : HP} {n : Nat} {w : World} (H : HRel F B w0 m h n w) {i : Nat} {ty : TypeId} {cs : List Value} (e : lkH h i = some (.own ty cs)) : ∃ g, m i g 0 ∧ ItmOk F B m w g 0 (.own ty cs) := by
 obtain ⟨g, s, x, ok⟩ := H.dom i _ e
 obtain rfl := ok.1
 exact ⟨g, x, ok⟩
theorem HRel.re {F : Nat → Prop} {B : Nat} {w0 : World} {m : BM} {h : HP} {n : Nat} {w : World} (H : HRel F B w0 m h n w) {i : Nat} {it it' : Itm} (e : lkH h i = some it) (hm : it'.mine = true → it.mine = true)
 (hb : ∀ g s b, it'.blk g s b → it.blk g s b) (ok : ∀ g s, m i g s → ItmOk F B m w g s it → ItmOk F B m w g s it') : HRel F B w0 m (upH h i it') n w := by
 refine ⟨H.keep, H.base, H.fn, H.fresh, fun j jt e2 => ?_, fun i1 it1 j jt g1 s1 g2 s2 b e1 hm1 e2 hij x y hb1 hb2 => ?_⟩
 · rw [lkH_up e] at e2
   by_cases hj : j = i
   · subst hj
     rw [if_pos rfl] at e2
     cases e2
     obtain ⟨g, s, x, y⟩ := H.dom j it e
     exact ⟨g, s, x, ok g s x y⟩
   · rw [if_neg hj] at e2
     exact H.dom j jt e2
 · rw [lkH_up e] at e1 e2
   by_cases hi : i1 = i
   · subst hi
     rw [if_pos rfl] at e1
     cases e1
     rw [if_neg (fun z => hij z.symm)] at e2
     exact H.sep i1 it j jt g1 s1 g2 s2 b e (hm hm1) e2 hij x y (hb _ _ _ hb1) hb2
   · rw [if_neg hi] at e1
     by_cases hj : j = i
     · subst hj
       rw [if_pos rfl] at e2
       cases e2
       exact H.sep i1 it1 j it g1 s1 g2 s2 b e1 hm1 e hi x y hb1 (hb _ _ _ hb2)
     · rw [if_neg hj] at e2
       exact H.sep i1 it1 j jt g1 s1 g2 s2 b e1 hm1 e2 hij x y hb1 hb2
theorem HRel.openAt {F : Nat → Prop} {B : Nat} {w0 : World} {m : BM} {h : HP} {n : Nat} {w : World} (H : HRel F B w0 m h n w) {i : Nat} {S : Nat → Prop} {Φ : Nat → World → Prop} (e : lkH h i = some (.abs true S Φ)) {g : Nat} (hg : m i g 0) (it' : Itm)
 (h1 : it'.one = true) (hS : S g) (ok : ItmOk F B m w g 0 it') : HAcc F B w0 m (upH h i it') n w (fun b => ¬ S b ∨ b = g) := by
 refine ⟨?_, ?_⟩
 · refine ⟨H.keep, H.base, H.fn, H.fresh, fun j jt e2 => ?_, fun i1 it1 j jt g1 s1 g2 s2 b e1 hm1 e2 hij x y hb1 hb2 => ?_⟩
   · rw [lkH_up e] at e2
     by_cases hj : j = i
     · subst hj
       rw [if_pos rfl] at e2
       cases e2
       exact ⟨g, 0, hg, ok⟩
     · rw [if_neg hj] at e2
       exact H.dom j jt e2
   · rw [lkH_up e] at e1 e2
     by_cases hi : i1 = i
     · subst hi
       rw [if_pos rfl] at e1
       cases e1
       rw [if_neg (fun z => hij z.symm)] at e2
       obtain ⟨rfl, rfl⟩ := H.fn _ _ _ _ _ x hg
       obtain ⟨_, rfl⟩ := (Itm.blk_one h1).1 hb1
       exact H.sep i1 _ j jt _ _ g2 s2 _ e rfl e2 hij hg y hS hb2
     · rw [if_neg hi] at e1
       by_cases hj : j = i
       · subst hj
         rw [if_pos rfl] at e2
         cases e2
         obtain ⟨rfl, rfl⟩ := H.fn _ _ _ _ _ y hg
         obtain ⟨_, rfl⟩ := (Itm.blk_one h1).1 hb2
         exact H.sep i1 it1 j _ g1 s1 _ _ _ e1 hm1 e hi x hg hb1 hS
       · rw [if_neg hj] at e2
         exact H.sep i1 it1 j jt g1 s1 g2 s2 b e1 hm1 e2 hij x y hb1 hb2
 · intro j jt g1 s1 b e2 x hb
   rw [lkH_up e] at e2
   by_cases hj : j = i
   · subst hj
     rw [if_pos rfl] at e2
     cases e2
     obtain ⟨rfl, rfl⟩ := H.fn _ _ _ _ _ x hg
     exact .inr ((Itm.blk_one h1).1 hb).2
   · rw [if_neg hj] at e2
     exact .inl fun hs => H.sep i _ j jt g 0 g1 s1 b e rfl e2 (fun z => hj z.symm) hg x hs hb
theorem HRel.shrink {F : Nat → Prop} {B : Nat} {w0 : World} {m : BM} {h : HP} {n : Nat} {w : World} (H : HRel F B w0 m h n w) {i : Nat} {S S' : Nat → Prop} {Φ Φ' : Nat → World → Prop} (e : lkH h i = some (.abs true S Φ))
 (hs : ∀ b, S' b → S b) (hok : ∀ g s, m i g s → ItmOk F B m w g s (.abs true S Φ) → ItmOk F B m w g s (.abs true S' Φ')) : HAcc F B w0 m (upH h i (.abs true S' Φ')) n w (fun b => ¬ S b ∨ S' b) := by
 refine ⟨H.re e (fun _ => rfl) (fun _ _ b hb => hs b hb) (fun g s hg ok => hok g s hg ok), fun j jt g1 s1 b e2 x hb => ?_⟩
 rw [lkH_up e] at e2
 by_cases hj : j = i
 · subst hj
   rw [if_pos rfl] at e2
   cases e2
   exact .inr hb
 · rw [if_neg hj] at e2
   obtain ⟨g, s, hg, _⟩ := H.dom i _ e
   exact .inl fun hS => H.sep i _ j jt g s g1 s1 b e rfl e2 (fun z => hj z.symm) hg x hS hb
theorem lkH_rmHs_none : ∀ (l : List Nat) {h : HP} {i : Nat}, i ∈ l → lkH (rmHs l h) i = none
 | [], _, _, hi => by cases hi
 | j :: l, h, i, hi => by
  show lkH (rmHs l (rmH h j)) i = none
  by_cases hij : i ∈ l
  · exact lkH_rmHs_none l hij
  · have : i = j := by cases hi with | head => rfl | tail _ h => exact absurd h hij
    subst this
    have key : ∀ (l : List Nat) (h : HP) (it : Itm), lkH (rmHs l h) i = some it → lkH h i = some it := by
     intro l
     induction l with
     | nil => exact fun _ _ e => e
     | cons k l ih =>
      intro h it e
      have := ih _ _ e
      rw [lkH_rm] at this
      split at this
      · cases this
      · exact this
    cases e : lkH (rmHs l (rmH h i)) i with
    | none => rfl
    | some it =>
     have := key _ _ _ e
     rw [lkH_rm, if_pos rfl] at this
     cases this
theorem lkH_rmHs_some : ∀ (l : List Nat) {h : HP} {i : Nat} {it : Itm}, lkH (rmHs l h) i = some it → lkH h i = some it
 | [], _, _, _, e => e
 | j :: l, h, i, it, e => by
  have := lkH_rmHs_some l (h := rmH h j) e
  rw [lkH_rm] at this
  split at this
  · cases this
  · exact this
theorem HRel.closeAt {F : Nat → Prop} {B : Nat} {w0 : World} {m : BM} {h : HP} {n : Nat} {w : World} (H : HRel F B w0 m h n w) (ids : List Nat) {i g s : Nat} (hi : i ∈ ids) (hg : m i g s) (S : Nat → Prop) (Φ : Nat → World → Prop)
 (hS : ∀ b, S b → ∃ j ∈ ids, ∃ jt g' s', lkH h j = some jt ∧ jt.mine = true ∧ m j g' s' ∧ jt.blk g' s' b) (hr : (s = nilS ∧ g = 0) ∨ s = 0) (st : Stab S (Φ g)) (hΦ : Φ g w) : HRel F B w0 m ((i, .abs true S Φ) :: rmHs ids h) n w := by
 have look : ∀ k kt, lkH ((i, .abs true S Φ) :: rmHs ids h) k = some kt → (k = i ∧ kt = .abs true S Φ) ∨ (k ∉ ids ∧ lkH h k = some kt) := fun k kt e => by
  by_cases hk : i = k
  · subst hk
    exact .inl ⟨rfl, by simpa [lkH] using e.symm⟩
  · unfold lkH at e
    rw [beq_no hk] at e
    refine .inr ⟨fun hm => ?_, lkH_rmHs_some _ e⟩
    have := lkH_rmHs_none ids (h := h) hm
    have e : lkH (rmHs ids h) k = some kt := e
    rw [e] at this
    cases this
 refine ⟨H.keep, H.base, H.fn, H.fresh, fun k kt e => ?_, fun k kt j jt g1 s1 g2 s2 b e1 hm1 e2 hij x y hb1 hb2 => ?_⟩
 · rcases look k kt e with ⟨rfl, rfl⟩ | ⟨_, e'⟩
   · refine ⟨g, s, hg, hr, fun b hb => ?_, fun _ b hb => ?_, st, hΦ⟩
     · obtain ⟨j, _, jt, g', s', e1, _, x, hb'⟩ := hS b hb
       exact (H.at e1 x).lt hb'
     · obtain ⟨j, _, jt, g', s', e1, hm, x, hb'⟩ := hS b hb
       exact (H.at e1 x).fence hm hb'
   · exact H.dom k kt e'
 · rcases look k kt e1 with ⟨rfl, rfl⟩ | ⟨hk, e1'⟩
   · rcases look j jt e2 with ⟨rfl, rfl⟩ | ⟨hj, e2'⟩
     · exact hij rfl
     · obtain ⟨q, hq, qt, g', s', eq, hmq, xq, hbq⟩ := hS b hb1
       exact H.sep q qt j jt g' s' g2 s2 b eq hmq e2' (fun z => hj (z ▸ hq)) xq y hbq hb2
   · rcases look j jt e2 with ⟨rfl, rfl⟩ | ⟨hj, e2'⟩
     · obtain ⟨q, hq, qt, g', s', eq, hmq, xq, hbq⟩ := hS b hb2
       exact H.sep k kt q qt g1 s1 g' s' b e1' hm1 eq (fun z => hk (z ▸ hq)) x xq hb1 hbq
     · exact H.sep k kt j jt g1 s1 g2 s2 b e1' hm1 e2' hij x y hb1 hb2
end Go.Proofs.YtcojbjakopkfbaaGreat
