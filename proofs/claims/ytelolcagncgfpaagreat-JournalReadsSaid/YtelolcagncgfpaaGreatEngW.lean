/- A generator of conditions for a walk, parts 18 and 19: calls by raw laws, rules over worlds, items for whole structures; slices inside what came in. No program in sight. -/
import Derived.Test.YtelolcagncgfpaaGreatEngN
import Derived.Test.YtelolcagncgfpaaGreatEngV
namespace Go.Proofs.YtelolcagncgfpaaGreat
open Go.RowKit
set_option linter.unusedSimpArgs false
set_option linter.unusedVariables false
theorem CallOb.conv {P : Program} {f : FuncId} {args : List Value} {h : HP} {n : Nat} {K1 K : Value → HP → Nat → Prop} (C : CallOb P f args h n K1)
 (hc : ∀ v h1 n1, K1 v h1 n1 → ∀ F B w0 m w c, HRel F B w0 m h1 n1 w → VR m v c → ∃ m' v' h2 n2, m.le m' ∧ VR m' v' c ∧ HRel F B w0 m' h2 n2 w ∧ K v' h2 n2) : CallOb P f args h n K :=
 ⟨C.fn, fun F B w0 m w cs H hcs => (C.run F B w0 m w cs H hcs).mono fun e w' ⟨m1, v, c, h1, n1, he, hm, hv, H1, hk⟩ =>
  let ⟨m2, v', h2, n2, hm2, hv2, H2, hk2⟩ := hc v h1 n1 hk F B w0 m1 w' c H1 hv
  ⟨m2, v', c, h2, n2, he, BM.le_trans hm hm2, hv2, H2, hk2⟩⟩
theorem CallOb.mono {P : Program} {f : FuncId} {args : List Value} {h : HP} {n : Nat} {K1 K : Value → HP → Nat → Prop} (C : CallOb P f args h n K1) (hc : ∀ v h1 n1, K1 v h1 n1 → K v h1 n1) : CallOb P f args h n K :=
 C.conv fun v h1 n1 hk F B w0 m w c H hv => ⟨m, v, h1, n1, BM.le_refl m, hv, H, hc _ _ _ hk⟩
theorem CallOb.pre {P : Program} {f : FuncId} (hok : FnOk P f) {args : List Value} {h : HP} {n : Nat} {K : Value → HP → Nat → Prop}
 (hc : ∀ F B w0 m w cs, HRel F B w0 m h n w → LR (VR m) args cs → ∃ m' args' h' n', m.le m' ∧ HRel F B w0 m' h' n' w ∧ LR (VR m') args' cs ∧ CallOb P f args' h' n' K) : CallOb P f args h n K :=
 ⟨hok, fun F B w0 m w cs H hcs =>
  let ⟨m', args', h', n', hm, H', hcs', C⟩ := hc F B w0 m w cs H hcs
  (C.run F B w0 m' w cs H' hcs').mono fun e w' ⟨m1, v, c, h1, n1, he, hm1, r⟩ => ⟨m1, v, c, h1, n1, he, BM.le_trans hm hm1, r⟩⟩
theorem call_raw {P : Program} {f : FuncId} (hok : FnOk P f) {args : List Value} {h : HP} {n : Nat} {K : Value → HP → Nat → Prop} {v : Value}
 (hc : ∀ F B w0 m w cs, HRel F B w0 m h n w → LR (VR m) args cs → Calls P f cs.toArray w fun e w' => ∃ c, e = .returned c ∧ VR m v c ∧ Below w.heap.size w w') (hk : K v h n) : CallOb P f args h n K :=
 ⟨hok, fun F B w0 m w cs H hcs => (hc F B w0 m w cs H hcs).mono fun e w' ⟨c, he, hv, hb⟩ => ⟨m, v, c, h, n, he, BM.le_refl m, hv, H.later hb, hk⟩⟩
inductive AgainS {ι : Type} (N np n0 : Nat) (I : ι → TM) (J : ι → HP) (μ : ι → Nat) (R : ι → Prop) (i : ι) (t : TM) (h : HP) (n : Nat) : Prop
 | go (hg : ∀ F B w0 m w a, HRel F B w0 m h n w → TRel m N t a → ∃ i' m', R i' ∧ μ i' < μ i ∧ BM.leN np m m' ∧ HRel F B w0 m' (J i') n0 w ∧ TRel m' N (I i') a) : AgainS N np n0 I J μ R i t h n
 | no (hx : False) : AgainS N np n0 I J μ R i t h n
theorem loop_sem {P : Program} {T : Tab} (hT : TabOk P T) (hmix : P.follows .mixedOrders = true) {N np : Nat} (pl : Plans) {c : Code} {K : KT} {t : TM} {h : HP} {n : Nat}
 {ι : Type} (n0 : Nat) (I : ι → TM) (J : ι → HP) (μ : ι → Nat) (R : ι → Prop)
 (hs : ∀ F B w0 m w a, HRel F B w0 m h n w → TRel m N t a → ∃ i0 m', R i0 ∧ BM.leN np m m' ∧ HRel F B w0 m' (J i0) n0 w ∧ TRel m' N (I i0) a)
 (round : ∀ i, R i → vc P T N np pl c (fun e t' h' n' => match e with | .normal => AgainS N np n0 I J μ R i t' h' n' | e => K e t' h' n') (I i) (J i) n0) : LoopOb P N np c K t h n := by
 refine ⟨fun ds F B w0 m w a H ht => ?_⟩
 obtain ⟨i0, m0, h0, hle, H0, ht0⟩ := hs F B w0 m w a H ht.r
 refine wp_loop_ghost (fun i a w => R i ∧ ∃ m', BM.leN np m m' ∧ HRel F B w0 m' (J i) n0 w ∧ TD ds m' N (I i) a) μ (fun i a w hI => ?_) (i0 := i0) ⟨h0, m0, hle, H0, ⟨ht0, ht.ds⟩⟩
 obtain ⟨hR, m1, hm1, H1, ht1⟩ := hI
 refine wp_mono (vc_ok hT hmix (round i hR) ds F B w0 m1 w a H1 ht1) fun e a' w' hq => ?_
 obtain ⟨hn, m', t', h', n', hm2, H', ht', hK⟩ := hq
 have hm := BM.leN_trans hm1 hm2
 cases e with
 | normal =>
  cases hK with
  | no h => exact h.elim
  | go hg =>
  obtain ⟨i', m2, hR', hlt, hle2, H2, ht2⟩ := hg F B w0 m' w' a' H' ht'.r
  exact ⟨i', ⟨hR', m2, BM.leN_trans hm hle2, H2, ⟨ht2, ht'.ds⟩⟩, hlt⟩
 | exit id => exact ⟨rfl, m', t', h', n', hm, H', ht', hK⟩
 | goto l => exact ⟨rfl, m', t', h', n', hm, H', ht', hK⟩
 | ret => exact ⟨rfl, m', t', h', n', hm, H', ht', hK⟩
 | panic ch => cases hn
 | outgrown => exact ⟨rfl, m', t', h', n', hm, H', ht', hK⟩
structure HAcc (F : Nat → Prop) (B : Nat) (w0 : World) (m : BM) (h : HP) (n : Nat) (w : World) (U : Nat → Prop) : Prop where
 H : HRel F B w0 m h n w
 cov : ∀ i it g s b, lkH h i = some it → m i g s → it.blk g s b → U b
theorem HAcc.nil {F : Nat → Prop} {B : Nat} {w0 w : World} (hk : Keep F B w0 w) (hB : B ≤ w0.heap.size) : HAcc F B w0 (fun _ _ _ => False) [] 0 w (fun _ => False) :=
 ⟨⟨hk, hB, fun _ _ _ _ _ h => h.elim, fun _ _ _ h => h.elim, fun _ _ e => (by cases e), fun _ _ _ _ _ _ _ _ _ e => (by cases e)⟩, fun _ _ _ _ _ e => (by cases e)⟩
theorem HAcc.add {F : Nat → Prop} {B : Nat} {w0 : World} {m : BM} {h : HP} {n : Nat} {w : World} {U : Nat → Prop} (A : HAcc F B w0 m h n w U) (g s : Nat) (it : Itm)
 (ok : ItmOk F B (m.put n g s) w g s it) (hd : ∀ b, it.blk g s b → ¬ U b) : HAcc F B w0 (m.put n g s) ((n, it) :: h) (n + 1) w (fun b => U b ∨ it.blk g s b) := by
 obtain ⟨H, cov⟩ := A
 have old : ∀ i g' s, m i g' s → i ≠ n := fun i g' s x e => by have := H.fresh i g' s x; omega
 have look : ∀ k kt, lkH ((n, it) :: h) k = some kt → k ≠ n → lkH h k = some kt := fun k kt e hk => by
  unfold lkH at e
  rwa [beq_no fun x => hk x.symm] at e
 have here : ∀ kt, lkH ((n, it) :: h) n = some kt → kt = it := fun kt e => by simpa [lkH] using e.symm
 refine ⟨⟨H.keep, H.base, ?_, ?_, ?_, ?_⟩, ?_⟩
 · rintro i a s a' s' (x | ⟨rfl, rfl, rfl⟩) (y | ⟨e, rfl, rfl⟩)
   · exact H.fn _ _ _ _ _ x y
   · exact absurd e (old _ _ _ x)
   · exact absurd rfl (old _ _ _ y)
   · exact ⟨rfl, rfl⟩
 · rintro i a s (x | ⟨rfl, -, -⟩)
   · have := H.fresh _ _ _ x; omega
   · omega
 · intro i it' e
   by_cases hin : i = n
   · subst hin
     obtain rfl := here it' e
     exact ⟨g, s, .inr ⟨rfl, rfl, rfl⟩, ok⟩
   · obtain ⟨g', s', x, y⟩ := H.dom i it' (look i it' e hin)
     exact ⟨g', s', .inl x, y.mono (BM.le_put m n g s)⟩
 · intro i it' j jt a s1 a2 s2 b e1 hm e2 hij x y hb1 hb2
   rcases x with x | ⟨rfl, rfl, rfl⟩
   · have e1' := look i it' e1 (old _ _ _ x)
     rcases y with y | ⟨rfl, rfl, rfl⟩
     · exact H.sep i it' j jt a s1 a2 s2 b e1' hm (look j jt e2 (old _ _ _ y)) hij x y hb1 hb2
     · obtain rfl := here jt e2
       exact hd b hb2 (cov _ _ _ _ _ e1' x hb1)
   · obtain rfl := here it' e1
     rcases y with y | ⟨e, -, -⟩
     · exact hd b hb1 (cov _ _ _ _ _ (look j jt e2 (old _ _ _ y)) y hb2)
     · exact absurd e.symm hij
 · intro i it' a s1 b e x hb
   rcases x with x | ⟨rfl, rfl, rfl⟩
   · exact .inl (cov _ _ _ _ _ (look i it' e (old _ _ _ x)) x hb)
   · obtain rfl := here it' e
     exact .inr hb
theorem HAcc.give {F : Nat → Prop} {B : Nat} {w0 : World} {m : BM} {h : HP} {n : Nat} {w : World} {U : Nat → Prop} (A : HAcc F B w0 m h n w U) {k g s : Nat} (hm : m k g s) (hk : lkH h k = none) (it : Itm)
 (ok : ItmOk F B m w g s it) (hd : ∀ b, it.blk g s b → ¬ U b) : HAcc F B w0 m ((k, it) :: h) n w (fun b => U b ∨ it.blk g s b) := by
 obtain ⟨H, cov⟩ := A
 have look : ∀ j jt, lkH ((k, it) :: h) j = some jt → (j = k ∧ jt = it) ∨ (j ≠ k ∧ lkH h j = some jt) := fun j jt e => by
  by_cases hj : k = j
  · subst hj
    exact .inl ⟨rfl, by simpa [lkH] using e.symm⟩
  · unfold lkH at e
    rw [beq_no hj] at e
    exact .inr ⟨fun z => hj z.symm, e⟩
 refine ⟨⟨H.keep, H.base, H.fn, H.fresh, fun j jt e => ?_, fun i it1 j jt a s1 a2 s2 b e1 hm1 e2 hij x y hb1 hb2 => ?_⟩, fun j jt a s1 b e x hb => ?_⟩
 · rcases look j jt e with ⟨rfl, rfl⟩ | ⟨_, e'⟩
   · exact ⟨g, s, hm, ok⟩
   · exact H.dom j jt e'
 · rcases look i it1 e1 with ⟨rfl, rfl⟩ | ⟨hi, e1'⟩
   · obtain ⟨rfl, rfl⟩ := H.fn _ _ _ _ _ x hm
     rcases look j jt e2 with ⟨rfl, rfl⟩ | ⟨hj, e2'⟩
     · exact hij rfl
     · exact hd b hb1 (cov _ _ _ _ _ e2' y hb2)
   · rcases look j jt e2 with ⟨rfl, rfl⟩ | ⟨hj, e2'⟩
     · obtain ⟨rfl, rfl⟩ := H.fn _ _ _ _ _ y hm
       exact hd b hb2 (cov _ _ _ _ _ e1' x hb1)
     · exact H.sep i it1 j jt a s1 a2 s2 b e1' hm1 e2' hij x y hb1 hb2
 · rcases look j jt e with ⟨rfl, rfl⟩ | ⟨_, e'⟩
   · obtain ⟨rfl, rfl⟩ := H.fn _ _ _ _ _ x hm
     exact .inr hb
   · exact .inl (cov _ _ _ _ _ e' x hb)
theorem HRel.name {F : Nat → Prop} {B : Nat} {w0 : World} {m : BM} {h : HP} {n : Nat} {w : World} (H : HRel F B w0 m h n w) (g s : Nat) : HRel F B w0 (m.put n g s) h (n + 1) w := by
 refine H.up (BM.le_put _ _ _ _) ?_ ?_
 · rintro i a s a' s' (x | ⟨rfl, rfl, rfl⟩) (y | ⟨e, rfl, rfl⟩)
   · exact H.fn _ _ _ _ _ x y
   · have := H.fresh _ _ _ x; omega
   · have := H.fresh _ _ _ y; omega
   · exact ⟨rfl, rfl⟩
 · rintro i a s (x | ⟨rfl, -, -⟩)
   · have := H.fresh _ _ _ x; omega
   · omega
theorem HRel.none {F : Nat → Prop} {B : Nat} {w0 : World} {m : BM} {h : HP} {n : Nat} {w : World} (H : HRel F B w0 m h n w) {k : Nat} (hk : n ≤ k) : lkH h k = none := by
 cases e : lkH h k with
 | none => rfl
 | some it => obtain ⟨g, s, x, _⟩ := H.dom k it e; have := H.fresh _ _ _ x; omega
theorem lkH_up_none {h : HP} {i k : Nat} {it it' : Itm} (e : lkH h i = some it) (hk : lkH h k = none) : lkH (upH h i it') k = none := by
 rw [lkH_up e]
 by_cases hi : k = i
 · subst hi; rw [hk] at e; cases e
 · rw [if_neg hi]; exact hk
abbrev rp (g : Nat) (o : Nat := 0) : Value := .pointer (some ⟨g, o, some 1⟩)
theorem rigLd_abs {T : Tab} {h : HP} {ty : TypeId} {g o i : Nat} {u : Value} {wr : Bool} {S : Nat → Prop} {Φ : Nat → World → Prop} (e : lkH h i = some (.abs wr S Φ))
 (hr : ∃ r, lkR T ty = some r ∧ r.ty.agg = false) (hf : flat1 u = true) (hn : noTup u = true) (hc : ∀ q w, Φ q w → w.cell? ⟨g, o, none⟩ = some u) : RigLd T h ty g o u :=
 ⟨[u], let ⟨r, h1, h2⟩ := hr; ⟨r, h1, .inl ⟨h2, rfl, hn⟩⟩, fun F B w0 m n w H => by
  obtain ⟨g', s, _, ok⟩ := H.dom i _ e
  refine ⟨[u], ⟨(V1.flat hf).2 rfl, trivial⟩, fun j v hj => ?_⟩
  match j, hj with
  | 0, hj => cases hj; exact hc _ _ ok.2.2.2.2
  | j + 1, hj => simp at hj⟩
theorem HRel.place {F : Nat → Prop} {B : Nat} {w0 : World} {m : BM} {h : HP} {n : Nat} {w : World} (H : HRel F B w0 m h n w) {i : Nat} {ty : TypeId} {cs : List Value} (e : lkH h i = some (.own ty cs)) : ∃ g, m i g 0 ∧ ItmOk F B m w g 0 (.own ty cs) := by
 obtain ⟨g, s, x, ok⟩ := H.dom i _ e
 obtain rfl := ok.1
 exact ⟨g, x, ok⟩
theorem HRel.re {F : Nat → Prop} {B : Nat} {w0 : World} {m : BM} {h : HP} {n : Nat} {w : World} (H : HRel F B w0 m h n w) {i : Nat} {it it' : Itm} (e : lkH h i = some it) (hm : it'.mine = true → it.mine = true)
 (hb : ∀ g s b, it'.blk g s b → it.blk g s b) (ok : ∀ g s, m i g s → ItmOk F B m w g s it → ItmOk F B m w g s it') : HRel F B w0 m (upH h i it') n w := by
 refine ⟨H.keep, H.base, H.fn, H.fresh, fun j jt e2 => ?_, fun i1 it1 j jt g1 s1 g2 s2 b e1 hm1 e2 hij x y hb1 hb2 => ?_⟩
 · rw [lkH_up e] at e2
   by_cases hj : j = i
   · subst hj
     rw [if_pos rfl] at e2
     cases e2
     obtain ⟨g, s, x, y⟩ := H.dom j it e
     exact ⟨g, s, x, ok g s x y⟩
   · rw [if_neg hj] at e2
     exact H.dom j jt e2
 · rw [lkH_up e] at e1 e2
   by_cases hi : i1 = i
   · subst hi
     rw [if_pos rfl] at e1
     cases e1
     rw [if_neg (fun z => hij z.symm)] at e2
     exact H.sep i1 it j jt g1 s1 g2 s2 b e (hm hm1) e2 hij x y (hb _ _ _ hb1) hb2
   · rw [if_neg hi] at e1
     by_cases hj : j = i
     · subst hj
       rw [if_pos rfl] at e2
       cases e2
       exact H.sep i1 it1 j it g1 s1 g2 s2 b e1 hm1 e hi x y hb1 (hb _ _ _ hb2)
     · rw [if_neg hj] at e2
       exact H.sep i1 it1 j jt g1 s1 g2 s2 b e1 hm1 e2 hij x y hb1 hb2
theorem HRel.openAt {F : Nat → Prop} {B : Nat} {w0 : World} {m : BM} {h : HP} {n : Nat} {w : World} (H : HRel F B w0 m h n w) {i : Nat} {S : Nat → Prop} {Φ : Nat → World → Prop} (e : lkH h i = some (.abs true S Φ)) {g : Nat} (hg : m i g 0) (it' : Itm)
 (h1 : it'.one = true) (hS : S g) (ok : ItmOk F B m w g 0 it') : HAcc F B w0 m (upH h i it') n w (fun b => ¬ S b ∨ b = g) := by
 refine ⟨?_, ?_⟩
 · refine ⟨H.keep, H.base, H.fn, H.fresh, fun j jt e2 => ?_, fun i1 it1 j jt g1 s1 g2 s2 b e1 hm1 e2 hij x y hb1 hb2 => ?_⟩
   · rw [lkH_up e] at e2
     by_cases hj : j = i
     · subst hj
       rw [if_pos rfl] at e2
       cases e2
       exact ⟨g, 0, hg, ok⟩
     · rw [if_neg hj] at e2
       exact H.dom j jt e2
   · rw [lkH_up e] at e1 e2
     by_cases hi : i1 = i
     · subst hi
       rw [if_pos rfl] at e1
       cases e1
       rw [if_neg (fun z => hij z.symm)] at e2
       obtain ⟨rfl, rfl⟩ := H.fn _ _ _ _ _ x hg
       obtain ⟨_, rfl⟩ := (Itm.blk_one h1).1 hb1
       exact H.sep i1 _ j jt _ _ g2 s2 _ e rfl e2 hij hg y hS hb2
     · rw [if_neg hi] at e1
       by_cases hj : j = i
       · subst hj
         rw [if_pos rfl] at e2
         cases e2
         obtain ⟨rfl, rfl⟩ := H.fn _ _ _ _ _ y hg
         obtain ⟨_, rfl⟩ := (Itm.blk_one h1).1 hb2
         exact H.sep i1 it1 j _ g1 s1 _ _ _ e1 hm1 e hi x hg hb1 hS
       · rw [if_neg hj] at e2
         exact H.sep i1 it1 j jt g1 s1 g2 s2 b e1 hm1 e2 hij x y hb1 hb2
 · intro j jt g1 s1 b e2 x hb
   rw [lkH_up e] at e2
   by_cases hj : j = i
   · subst hj
     rw [if_pos rfl] at e2
     cases e2
     obtain ⟨rfl, rfl⟩ := H.fn _ _ _ _ _ x hg
     exact .inr ((Itm.blk_one h1).1 hb).2
   · rw [if_neg hj] at e2
     exact .inl fun hs => H.sep i _ j jt g 0 g1 s1 b e rfl e2 (fun z => hj z.symm) hg x hs hb
theorem HRel.shrink {F : Nat → Prop} {B : Nat} {w0 : World} {m : BM} {h : HP} {n : Nat} {w : World} (H : HRel F B w0 m h n w) {i : Nat} {S S' : Nat → Prop} {Φ Φ' : Nat → World → Prop} (e : lkH h i = some (.abs true S Φ))
 (hs : ∀ b, S' b → S b) (hok : ∀ g s, m i g s → ItmOk F B m w g s (.abs true S Φ) → ItmOk F B m w g s (.abs true S' Φ')) : HAcc F B w0 m (upH h i (.abs true S' Φ')) n w (fun b => ¬ S b ∨ S' b) := by
 refine ⟨H.re e (fun _ => rfl) (fun _ _ b hb => hs b hb) (fun g s hg ok => hok g s hg ok), fun j jt g1 s1 b e2 x hb => ?_⟩
 rw [lkH_up e] at e2
 by_cases hj : j = i
 · subst hj
   rw [if_pos rfl] at e2
   cases e2
   exact .inr hb
 · rw [if_neg hj] at e2
   obtain ⟨g, s, hg, _⟩ := H.dom i _ e
   exact .inl fun hS => H.sep i _ j jt g s g1 s1 b e rfl e2 (fun z => hj z.symm) hg x hS hb
theorem lkH_rmHs_none : ∀ (l : List Nat) {h : HP} {i : Nat}, i ∈ l → lkH (rmHs l h) i = none
 | [], _, _, hi => by cases hi
 | j :: l, h, i, hi => by
  show lkH (rmHs l (rmH h j)) i = none
  by_cases hij : i ∈ l
  · exact lkH_rmHs_none l hij
  · have : i = j := by cases hi with | head => rfl | tail _ h => exact absurd h hij
    subst this
    have key : ∀ (l : List Nat) (h : HP) (it : Itm), lkH (rmHs l h) i = some it → lkH h i = some it := by
     intro l
     induction l with
     | nil => exact fun _ _ e => e
     | cons k l ih =>
      intro h it e
      have := ih _ _ e
      rw [lkH_rm] at this
      split at this
      · cases this
      · exact this
    cases e : lkH (rmHs l (rmH h i)) i with
    | none => rfl
    | some it =>
     have := key _ _ _ e
     rw [lkH_rm, if_pos rfl] at this
     cases this
theorem lkH_rmHs_some : ∀ (l : List Nat) {h : HP} {i : Nat} {it : Itm}, lkH (rmHs l h) i = some it → lkH h i = some it
 | [], _, _, _, e => e
 | j :: l, h, i, it, e => by
  have := lkH_rmHs_some l (h := rmH h j) e
  rw [lkH_rm] at this
  split at this
  · cases this
  · exact this
theorem HRel.closeAt {F : Nat → Prop} {B : Nat} {w0 : World} {m : BM} {h : HP} {n : Nat} {w : World} (H : HRel F B w0 m h n w) (ids : List Nat) {i g s : Nat} (hi : i ∈ ids) (hg : m i g s) (S : Nat → Prop) (Φ : Nat → World → Prop)
 (hS : ∀ b, S b → ∃ j ∈ ids, ∃ jt g' s', lkH h j = some jt ∧ jt.mine = true ∧ m j g' s' ∧ jt.blk g' s' b) (hr : (s = nilS ∧ g = 0) ∨ s = 0) (st : Stab S (Φ g)) (hΦ : Φ g w) : HRel F B w0 m ((i, .abs true S Φ) :: rmHs ids h) n w := by
 have look : ∀ k kt, lkH ((i, .abs true S Φ) :: rmHs ids h) k = some kt → (k = i ∧ kt = .abs true S Φ) ∨ (k ∉ ids ∧ lkH h k = some kt) := fun k kt e => by
  by_cases hk : i = k
  · subst hk
    exact .inl ⟨rfl, by simpa [lkH] using e.symm⟩
  · unfold lkH at e
    rw [beq_no hk] at e
    refine .inr ⟨fun hm => ?_, lkH_rmHs_some _ e⟩
    have := lkH_rmHs_none ids (h := h) hm
    have e : lkH (rmHs ids h) k = some kt := e
    rw [e] at this
    cases this
 refine ⟨H.keep, H.base, H.fn, H.fresh, fun k kt e => ?_, fun k kt j jt g1 s1 g2 s2 b e1 hm1 e2 hij x y hb1 hb2 => ?_⟩
 · rcases look k kt e with ⟨rfl, rfl⟩ | ⟨_, e'⟩
   · refine ⟨g, s, hg, hr, fun b hb => ?_, fun _ b hb => ?_, st, hΦ⟩
     · obtain ⟨j, _, jt, g', s', e1, _, x, hb'⟩ := hS b hb
       exact (H.at e1 x).lt hb'
     · obtain ⟨j, _, jt, g', s', e1, hm, x, hb'⟩ := hS b hb
       exact (H.at e1 x).fence hm hb'
   · exact H.dom k kt e'
 · rcases look k kt e1 with ⟨rfl, rfl⟩ | ⟨hk, e1'⟩
   · rcases look j jt e2 with ⟨rfl, rfl⟩ | ⟨hj, e2'⟩
     · exact hij rfl
     · obtain ⟨q, hq, qt, g', s', eq, hmq, xq, hbq⟩ := hS b hb1
       exact H.sep q qt j jt g' s' g2 s2 b eq hmq e2' (fun z => hj (z ▸ hq)) xq y hbq hb2
   · rcases look j jt e2 with ⟨rfl, rfl⟩ | ⟨hj, e2'⟩
     · obtain ⟨q, hq, qt, g', s', eq, hmq, xq, hbq⟩ := hS b hb2
       exact H.sep k kt q qt g1 s1 g' s' b e1' hm1 eq (fun z => hk (z ▸ hq)) x xq hb1 hbq
     · exact H.sep k kt j jt g1 s1 g2 s2 b e1' hm1 e2' hij x y hb1 hb2
end Go.Proofs.YtelolcagncgfpaaGreat
namespace Go.Proofs.YtelolcagncgfpaaGreat
open Go.RowKit
set_option linter.unusedSimpArgs false
set_option linter.unusedVariables false
def rsl : Value → Value
 | .slice p l k => .slice (some ⟨wcode p, 0, some 3⟩) l k
 | v => v
theorem rsl_V0 {m : BM} {p : Option Addr} {l k : Nat} {c : Value} : V0 m (rsl (.slice p l k)) c ↔ c = .slice p l k := by
 have key : slcF l k ⟨wcode p, 0, some 1⟩ = .slice p l k := by
  show Value.slice (weird (wcode p)) l k = _
  rw [weird_code]
 constructor
 · rintro ⟨d, hd, rfl⟩
   have hd : A0 m ⟨wcode p, 0, some 3⟩ d := hd
   rw [(A0.rig rfl).1 hd]
   exact key
 · rintro rfl
   exact ⟨_, (A0.rig (m := m) (g := wcode p) (o := 0) (p := some 3) rfl).2 rfl, key.symm⟩
theorem rsl_still {p : Option Addr} {l k : Nat} : still1 (rsl (.slice p l k)) = true := rfl
def SlcIn (N : Nat) (w : World) (v : Value) (len cap : Nat) (cells : List Value) : Prop :=
 (∃ a, v = .slice a 0 0 ∧ len = 0 ∧ cap = 0 ∧ cells = []) ∨
 ∃ a : Addr, v = .slice (some a) len cap ∧ a.spot = none ∧ a.block < N ∧ ∀ j u, cells[j]? = some u → w.cell? (a.add j) = some u
theorem SlcAt.slcIn {w : World} {v : Value} {len cap : Nat} {cells : List Value} (h : SlcAt w v len cap cells) : SlcIn w.heap.size w v len cap cells := h
theorem SlcIn.at {N : Nat} {w : World} {v : Value} {len cap : Nat} {cells : List Value} (h : SlcIn N w v len cap cells) (hN : N ≤ w.heap.size) : SlcAt w v len cap cells :=
 h.imp id fun ⟨a, h1, h2, h3, h4⟩ => ⟨a, h1, h2, Nat.lt_of_lt_of_le h3 hN, h4⟩
theorem SlcIn.slice {N : Nat} {w : World} {v : Value} {len cap : Nat} {cells : List Value} (h : SlcIn N w v len cap cells) : ∃ p, v = .slice p len cap := by
 rcases h with ⟨a, rfl, rfl, rfl, _⟩ | ⟨a, rfl, _⟩ <;> exact ⟨_, rfl⟩
theorem SlcIn.same {N : Nat} {w w' : World} {v : Value} {len cap : Nat} {cells : List Value} (hb : ∀ b, b < N → w'.heap[b]? = w.heap[b]?) (h : SlcIn N w v len cap cells) : SlcIn N w' v len cap cells :=
 h.imp id fun ⟨a, h1, h2, h3, h4⟩ => ⟨a, h1, h2, h3, fun j u hj => by
  obtain ⟨b, o, s⟩ := a
  dsimp only at h2 h3
  subst h2
  have h5 := h4 j u hj
  rw [add_lit'] at h5 ⊢
  rw [World.cell?_of_block (w := w) (a := ⟨b, o + j, none⟩) (hb _ h3)]
  exact h5⟩
section
variable {F : Nat → Prop} {B : Nat} {w0 : World} {m : BM} {h : HP} {n : Nat} {w : World}
theorem HRel.put0 (H : HRel F B w0 m h n w) (hv : ∀ i it, lkH h i = some it → it.mine = false) {it : Itm} (hm : it.mine = false) {g s : Nat} (ok : ItmOk F B (m.put n g s) w g s it) :
 HRel F B w0 (m.put n g s) ((n, it) :: h) (n + 1) w ∧ (∀ i jt, lkH ((n, it) :: h) i = some jt → jt.mine = false) := by
 have hmine : ∀ i jt, lkH ((n, it) :: h) i = some jt → jt.mine = false := fun i jt e => by
  by_cases hi : n = i
  · subst hi
    have : jt = it := by simpa [lkH] using e.symm
    subst this; exact hm
  · unfold lkH at e
    rw [beq_no hi] at e
    exact hv i jt e
 refine ⟨⟨H.keep, H.base, ?_, ?_, ?_, ?_⟩, hmine⟩
 · rintro i g1 s1 g2 s2 (x | ⟨rfl, rfl, rfl⟩) (y | ⟨e, rfl, rfl⟩)
   · exact H.fn _ _ _ _ _ x y
   · have := H.fresh _ _ _ x; omega
   · have := H.fresh _ _ _ y; omega
   · exact ⟨rfl, rfl⟩
 · rintro i g1 s1 (x | ⟨rfl, -, -⟩)
   · have := H.fresh _ _ _ x; omega
   · omega
 · intro i jt e
   by_cases hi : n = i
   · subst hi
     have : jt = it := by simpa [lkH] using e.symm
     subst this
     exact ⟨g, s, .inr ⟨rfl, rfl, rfl⟩, ok⟩
   · unfold lkH at e
     rw [beq_no hi] at e
     obtain ⟨g', s', x, ok'⟩ := H.dom i jt e
     exact ⟨g', s', .inl x, ok'.mono (BM.le_put m n g s)⟩
 · intro i it1 j jt g1 s1 g2 s2 b e hm1
   rw [hmine i it1 e] at hm1; cases hm1
theorem slc_view {N : Nat} {cells cells' : List Value} (hf : ∀ m : BM, LR (V1 m) cells' cells) {v : Value} {len cap : Nat} (S : SlcIn N w v len cap cells) (hN : N ≤ w.heap.size) (k : Nat) (m : BM) :
 ∃ g s, ItmOk F B (m.put k g s) w g s (.lview cells') ∧ V0 (m.put k g s) (mslice k len cap) v ∧ (s ≠ nilS → g < N) := by
 rcases S with ⟨a, rfl, rfl, rfl, rfl⟩ | ⟨a, rfl, hsp, hlt, hc⟩
 · have hc' : cells' = [] := by
    have := hf m
    cases cells' with
    | nil => rfl
    | cons _ _ => exact this.elim
   subst hc'
   exact ⟨wcode a, nilS, .inl ⟨rfl, rfl⟩, ⟨wcode a, nilS, .inr ⟨rfl, rfl, rfl⟩, .inl ⟨rfl, rfl, rfl, by rw [weird_code]⟩⟩, fun h => absurd rfl h⟩
 · obtain ⟨s, hs, hoff⟩ := sh_all a.off
   refine ⟨a.block, s, .inr ⟨Nat.lt_of_lt_of_le hlt hN, hs, cells, hf _, fun j u hj => ?_⟩, ⟨a.block, s, .inr ⟨rfl, rfl, rfl⟩, .inr ⟨hs, ?_⟩⟩, fun _ => hlt⟩
   · have := hc j u hj
     rw [hoff]
     obtain ⟨b, o, p⟩ := a
     dsimp only at hsp
     subst hsp
     rw [add_lit'] at this
     exact this
   · obtain ⟨b, o, p⟩ := a
     dsimp only at hsp hoff ⊢
     subst hsp
     rw [hoff, Nat.zero_add]
theorem HRel.seeR (H : HRel F B w0 m h n w) (hv : ∀ i it, lkH h i = some it → it.mine = false) {v : Value} {len cap : Nat} {cells cells' : List Value} (S : SlcAt w v len cap cells) (hf : ∀ m : BM, LR (V1 m) cells' cells) :
 ∃ m', m.le m' ∧ HRel F B w0 m' ((n, .lview cells') :: h) (n + 1) w ∧ (∀ i it, lkH ((n, .lview cells') :: h) i = some it → it.mine = false) ∧ V0 m' (mslice n len cap) v := by
 obtain ⟨g, s, ok, hv', _⟩ := slc_view (F := F) (B := B) hf S.slcIn (Nat.le_refl _) n m
 obtain ⟨h1, h2⟩ := H.put0 hv (it := .lview cells') rfl ok
 exact ⟨_, BM.le_put _ _ _ _, h1, h2, hv'⟩
theorem HRel.fact (H : HRel F B w0 m h n w) (hv : ∀ i it, lkH h i = some it → it.mine = false) (S : Nat → Prop) (Φ : World → Prop) (h1 : ∀ b, S b → b < w.heap.size) (st : Stab S Φ) (hΦ : Φ w) :
 ∃ m', m.le m' ∧ HRel F B w0 m' ((n, .abs false S (fun _ => Φ)) :: h) (n + 1) w ∧ (∀ i it, lkH ((n, .abs false S (fun _ => Φ)) :: h) i = some it → it.mine = false) := by
 obtain ⟨a, b⟩ := H.put0 hv (it := .abs false S (fun _ => Φ)) rfl (g := 0) (s := nilS) ⟨.inl ⟨rfl, rfl⟩, h1, (fun e => by cases e), st, hΦ⟩
 exact ⟨_, BM.le_put _ _ _ _, a, b⟩
theorem HRel.seeAbs (H : HRel F B w0 m h n w) {i N : Nat} {Φ : Nat → World → Prop} (e : lkH h i = some (.abs false (fun b => b < N) Φ)) {v : Value} {len cap : Nat} {cells : List Value} (S : ∀ q, Φ q w → SlcIn N w v len cap cells) (hf : ∀ u ∈ cells, flat1 u = true) :
 ∃ m', m.le m' ∧ HRel F B w0 m' ((n, .lview cells) :: h) (n + 1) w ∧ V0 m' (mslice n len cap) v := by
 obtain ⟨gi, si, hi, ok0⟩ := H.dom i _ e
 have hN : N ≤ w.heap.size := by
  rcases Nat.eq_zero_or_pos N with h0 | h0
  · omega
  · have := ok0.2.1 (N - 1) (by show N - 1 < N; omega); omega
 have hin := S gi ok0.2.2.2.2
 obtain ⟨g, s, ok, hv', hgN⟩ := slc_view (F := F) (B := B) (cells' := cells) (fun m => LR.refl_of fun u hu => (V1.flat (hf u hu)).2 rfl) hin hN n m
 refine ⟨_, BM.le_put m n g s, ⟨H.keep, H.base, ?_, ?_, ?_, ?_⟩, hv'⟩
 · rintro j g1 s1 g2 s2 (x | ⟨rfl, rfl, rfl⟩) (y | ⟨e, rfl, rfl⟩)
   · exact H.fn _ _ _ _ _ x y
   · have := H.fresh _ _ _ x; omega
   · have := H.fresh _ _ _ y; omega
   · exact ⟨rfl, rfl⟩
 · rintro j g1 s1 (x | ⟨rfl, -, -⟩)
   · have := H.fresh _ _ _ x; omega
   · omega
 · intro j jt e2
   by_cases hj : n = j
   · subst hj
     have : jt = .lview cells := by simpa [lkH] using e2.symm
     subst this
     exact ⟨g, s, .inr ⟨rfl, rfl, rfl⟩, ok⟩
   · unfold lkH at e2
     rw [beq_no hj] at e2
     obtain ⟨g', s', x, ok'⟩ := H.dom j jt e2
     exact ⟨g', s', .inl x, ok'.mono (BM.le_put m n g s)⟩
 · intro j jt k kt g1 s1 g2 s2 b e1 hm1 e2 hjk x y hb1 hb2
   have j0 : j ≠ n := fun ej => by
    subst ej
    have : jt = .lview cells := by simpa [lkH] using e1.symm
    subst this; cases hm1
   unfold lkH at e1
   rw [beq_no (fun z => j0 z.symm)] at e1
   have x' : m j g1 s1 := by
    rcases x with x | ⟨ej, _⟩
    · exact x
    · exact absurd ej j0
   by_cases hk : n = k
   · subst hk
     have : kt = .lview cells := by simpa [lkH] using e2.symm
     subst this
     have hgs : g2 = g ∧ s2 = s := by
      rcases y with y | ⟨_, h1, h2⟩
      · have := H.fresh _ _ _ y; omega
      · exact ⟨h1, h2⟩
     obtain ⟨rfl, rfl⟩ := hgs
     obtain ⟨hs2, rfl⟩ := (Itm.blk_one (it := .lview cells) rfl).1 hb2
     exact H.sep j jt i _ g1 s1 gi si b e1 hm1 e (fun z => by subst z; rw [e] at e1; cases e1; cases hm1) x' hi hb1 (hgN hs2)
   · unfold lkH at e2
     rw [beq_no hk] at e2
     have y' : m k g2 s2 := by
      rcases y with y | ⟨ek, _⟩
      · exact y
      · exact absurd ek.symm hk
     exact H.sep j jt k kt g1 s1 g2 s2 b e1 hm1 e2 hjk x' y' hb1 hb2
end
theorem sem_start {N np n0 : Nat} {ι : Type} {I : ι → TM} {J : ι → HP} {R : ι → Prop} {t : TM} {h : HP} {n : Nat} (i0 : ι) (h0 : R i0) (L : IdMap) (s : Sub np (I i0) (J i0) n0 t h L) :
 ∀ F B w0 m w a, HRel F B w0 m h n w → TRel m N t a → ∃ i0 m', R i0 ∧ BM.leN np m m' ∧ HRel F B w0 m' (J i0) n0 w ∧ TRel m' N (I i0) a := fun F B w0 m w a H ht => ⟨i0, _, h0, via_leN m np L, H.sub s.ok s.oki s.hp, ht.sub s.tm⟩
theorem sem_round {N np n0 : Nat} {ι : Type} {I : ι → TM} {J : ι → HP} {μ : ι → Nat} {R : ι → Prop} {i : ι} {t : TM} {h : HP} {n : Nat} (T' : TM) (H' : HP) (L : IdMap) (s : Sub np T' H' n0 t h L)
 (k : ∀ F B w0 m w, HRel F B w0 m H' n0 w → ∃ i', R i' ∧ μ i' < μ i ∧ HRel F B w0 m (J i') n0 w ∧ I i' = T') : AgainS N np n0 I J μ R i t h n :=
 .go fun F B w0 m w a H ht => let ⟨i', h1, h2, h3, h4⟩ := k F B w0 _ w (H.sub s.ok s.oki s.hp); ⟨i', _, h1, h2, via_leN m np L, h3, h4 ▸ ht.sub s.tm⟩
end Go.Proofs.YtelolcagncgfpaaGreat
