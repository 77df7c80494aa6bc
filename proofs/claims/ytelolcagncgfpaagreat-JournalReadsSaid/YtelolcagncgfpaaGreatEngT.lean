/- A generator of conditions for a walk, part 15: regions that draw their order and have two effects that may come in either order. No program in sight. -/
import Derived.Test.YtelolcagncgfpaaGreatEngM
namespace Go.Proofs.YtelolcagncgfpaaGreat
open Go.RowKit
set_option linter.unusedSimpArgs false
set_option linter.unusedVariables false
inductive PT where
 | nil
 | yes (i : Nat) (r : PT)
 | one (i : Nat) (bar : Bool) (r : PT)
 | two (i : Nat) (bi : Bool) (j : Nat) (bj : Bool) (ri rj : PT)
 | three (i : Nat) (bi : Bool) (j : Nat) (bj : Bool) (k : Nat) (bk : Bool) (ri rj rk : PT)
def PT.bars : PT → List Nat
 | .nil => []
 | .yes _ r => r.bars
 | .one i bar r => match bar with | true => i :: r.bars | false => r.bars
 | .two i bi j bj ri rj => (match bi with | true => [i] | false => []) ++ ((match bj with | true => [j] | false => []) ++ (ri.bars ++ rj.bars))
 | .three i bi j bj k bk ri rj rk => (match bi with | true => [i] | false => []) ++ ((match bj with | true => [j] | false => []) ++ ((match bk with | true => [k] | false => []) ++ (ri.bars ++ (rj.bars ++ rk.bars))))
def PT.chk (ops : Array Oper) (Bl : List Nat) : PT → Array Bool → Bool
 | .nil, listed => (Region.ready .any ops listed).isEmpty
 | .yes i r, listed => Region.free .any ops listed i && (Region.ready .any ops listed).contains i &&
  (match ops[i]? with | some o => !memOp o.op || Bl.all (fun j => listed.getD j true || reachB ops 400 j i) | none => false) && r.chk ops Bl (listed.setIfInBounds i true)
 | .one i bar r, listed => (Region.ready .any ops listed == [i]) && (!bar || Bl.contains i) && r.chk ops Bl (listed.setIfInBounds i true)
 | .two i bi j bj ri rj, listed => (!bi || Bl.contains i) && (!bj || Bl.contains j) && (Region.ready .any ops listed).all (fun k => Nat.beq k i || Nat.beq k j) && !(Region.ready .any ops listed).isEmpty && (Region.ready .any ops listed).contains i && (Region.ready .any ops listed).contains j &&
  ri.chk ops Bl (listed.setIfInBounds i true) && rj.chk ops Bl (listed.setIfInBounds j true)
 | .three i bi j bj k bk ri rj rk, listed => (!bi || Bl.contains i) && (!bj || Bl.contains j) && (!bk || Bl.contains k) && (Region.ready .any ops listed).all (fun q => Nat.beq q i || (Nat.beq q j || Nat.beq q k)) && (Region.ready .any ops listed).contains i && (Region.ready .any ops listed).contains j && (Region.ready .any ops listed).contains k &&
  (ri.chk ops Bl (listed.setIfInBounds i true) && (rj.chk ops Bl (listed.setIfInBounds j true) && rk.chk ops Bl (listed.setIfInBounds k true)))
def PT.len : PT → Nat
 | .nil => 0
 | .yes _ r => r.len + 1
 | .one _ _ r => r.len + 1
 | .two _ _ _ _ ri rj => max ri.len rj.len + 1
 | .three _ _ _ _ _ _ ri rj rk => max ri.len (max rj.len rk.len) + 1
def opAt (ops : List Oper) (i : Nat) : Oper := (ops.toArray[i]?).getD default
def wpPT (P : Program) (ops : Array Oper) (Q : Exit → Act → World → Prop) : PT → (World → Prop) → Act → World → Prop
 | .nil, S, a, w => Q .normal a w
 | .yes i r, S, a, w => ∃ v, YieldsIf P ops (match memOp (opAt ops.toList i).op with | true => S | false => fun _ => True) (opAt ops.toList i) v a ∧ wpPT P ops Q r S (a.put (opAt ops.toList i).dst v) w
 | .one i bar r, S, a, w => if Region.wanted (opAt ops.toList i) (yielded ops a.tmps) = true then Oper.wp P (opAt ops.toList i) a w (fun a' w' => ∃ S', S' w' ∧ (bar = true ∨ S' = S) ∧ wpPT P ops Q r S' a' w') Q else wpPT P ops Q r S (a.put (opAt ops.toList i).dst undef) w
 | .two i bi j bj ri rj, S, a, w =>
  (if Region.wanted (opAt ops.toList i) (yielded ops a.tmps) = true then Oper.wp P (opAt ops.toList i) a w (fun a' w' => ∃ S', S' w' ∧ (bi = true ∨ S' = S) ∧ wpPT P ops Q ri S' a' w') Q else wpPT P ops Q ri S (a.put (opAt ops.toList i).dst undef) w) ∧
  (if Region.wanted (opAt ops.toList j) (yielded ops a.tmps) = true then Oper.wp P (opAt ops.toList j) a w (fun a' w' => ∃ S', S' w' ∧ (bj = true ∨ S' = S) ∧ wpPT P ops Q rj S' a' w') Q else wpPT P ops Q rj S (a.put (opAt ops.toList j).dst undef) w)
 | .three i bi j bj k bk ri rj rk, S, a, w =>
  (if Region.wanted (opAt ops.toList i) (yielded ops a.tmps) = true then Oper.wp P (opAt ops.toList i) a w (fun a' w' => ∃ S', S' w' ∧ (bi = true ∨ S' = S) ∧ wpPT P ops Q ri S' a' w') Q else wpPT P ops Q ri S (a.put (opAt ops.toList i).dst undef) w) ∧
  (if Region.wanted (opAt ops.toList j) (yielded ops a.tmps) = true then Oper.wp P (opAt ops.toList j) a w (fun a' w' => ∃ S', S' w' ∧ (bj = true ∨ S' = S) ∧ wpPT P ops Q rj S' a' w') Q else wpPT P ops Q rj S (a.put (opAt ops.toList j).dst undef) w) ∧
  (if Region.wanted (opAt ops.toList k) (yielded ops a.tmps) = true then Oper.wp P (opAt ops.toList k) a w (fun a' w' => ∃ S', S' w' ∧ (bk = true ∨ S' = S) ∧ wpPT P ops Q rk S' a' w') Q else wpPT P ops Q rk S (a.put (opAt ops.toList k).dst undef) w)
theorem wpAnyD_more {P : Program} {ops : Array Oper} {Q : Exit → Act → World → Prop} {Bs : Nat → Bool} : ∀ {k l : Nat}, k ≤ l → ∀ {listed : Array Bool} {S : World → Prop} {a : Act} {w : World}, wpAnyD P ops Q Bs k listed S a w → wpAnyD P ops Q Bs l listed S a w
 | 0, 0, _, _, _, _, _, h => h
 | 0, l + 1, _, _, _, _, _, h => ⟨fun _ => h.2, fun i hi => by rw [h.1] at hi; cases hi⟩
 | k + 1, 0, hkl, _, _, _, _, h => by omega
 | k + 1, l + 1, hkl, _, _, _, _, h => ⟨h.1, fun i hi => wpOp_mono (fun a' w' ⟨S', h1, h2, h3⟩ => ⟨S', h1, h2, wpAnyD_more (by omega) h3⟩) (h.2 i hi)⟩
theorem opAt_eq {ops : Array Oper} {i : Nat} {o : Oper} (h : ops[i]? = some o) : opAt ops.toList i = o := by
 unfold opAt; simp [h]
theorem PT.sound {P : Program} {ops : Array Oper} {Q : Exit → Act → World → Prop} {Bl : List Nat} (hsel : Region.noSelect ops = true) (hQ : ∀ (c : List PanicEntry) (a : Act) (t : Tmp) (v : Value) (w : World), Q (.panic c) (a.put (some t) v) w → Q (.panic c) a w) :
 ∀ (p : PT) (listed : Array Bool) (S : World → Prop) (a : Act) (w : World), p.chk ops Bl listed = true → DC ops listed → S w → wpPT P ops Q p S a w → wpAnyD P ops Q (fun i => Bl.contains i) p.len listed S a w := by
 have eff : ∀ {i : Nat} {bar : Bool} {r : PT} {n : Nat} {listed : Array Bool} {S : World → Prop} {a : Act} {w : World} {o : Oper}, ops[i]? = some o → i ∈ Region.ready .any ops listed → r.len ≤ n → (bar = true → Bl.contains i = true) → S w → DC ops listed →
  (∀ S a w, S w → wpPT P ops Q r S a w → wpAnyD P ops Q (fun i => Bl.contains i) r.len (listed.setIfInBounds i true) S a w) →
  (if Region.wanted o (yielded ops a.tmps) = true then Oper.wp P o a w (fun a' w' => ∃ S', S' w' ∧ (bar = true ∨ S' = S) ∧ wpPT P ops Q r S' a' w') Q else wpPT P ops Q r S (a.put o.dst undef) w) →
  wpOp P ops Q i (fun a' w' => ∃ S', S' w' ∧ (Bl.contains i = true ∨ S' = S) ∧ wpAnyD P ops Q (fun i => Bl.contains i) n (listed.setIfInBounds i true) S' a' w') a w := by
  intro i bar r n listed S a w o ho hi hn hb hS hdc ih h
  unfold wpOp
  simp only [ho]
  split
  · rename_i hw
    rw [if_pos hw] at h
    exact .inl (Oper.wp_mono (fun a' w' ⟨S', h1, hb', h2⟩ => ⟨S', h1, hb'.imp hb id, wpAnyD_more hn (ih _ _ _ h1 h2)⟩) h)
  · rename_i hw
    rw [if_neg hw] at h
    exact ⟨S, hS, .inr rfl, wpAnyD_more hn (ih _ _ _ hS h)⟩
 intro p
 induction p with
 | nil =>
  intro listed S a w hp hdc hS h
  exact ⟨by simpa [PT.chk] using hp, h⟩
 | yes i r ih =>
  intro listed S a w hp hdc hS h
  simp only [PT.chk, Bool.and_eq_true] at hp
  obtain ⟨⟨⟨hf, hr⟩, hm⟩, hrest⟩ := hp
  have hmem : i ∈ Region.ready .any ops listed := by simpa using hr
  obtain ⟨hun, o, ho, hall⟩ := mem_ready.1 hmem
  obtain ⟨v, hy, hw⟩ := h
  rw [opAt_eq ho] at hy hw
  rw [ho] at hm
  dsimp only at hm
  have hQ' : ∀ c a w, Q (.panic c) (a.put o.dst v) w → Q (.panic c) a w := by
   intro c a w
   cases o.dst with
   | none => exact fun h => h
   | some t => exact hQ c a t v w
  refine wpAnyD_first ho (Region.noSelect_spec hsel) hQ' r.len listed S a w (Region.free_spec ho hf) hdc hmem hy ?_ ?_ hS (ih _ _ _ _ hrest (hdc.set hmem) hS hw)
  · intro w hw'
    cases e : memOp o.op with
    | true => exact hw'
    | false => trivial
  · cases e : memOp o.op with
    | true =>
     rw [e] at hm
     refine .inr fun j hj => ?_
     simp only [Bool.not_true, Bool.false_or] at hm
     have := List.all_eq_true.1 hm j (by simpa using hj)
     simpa using this
    | false => exact .inl fun _ => trivial
 | one i bar r ih =>
  intro listed S a w hp hdc hS h
  simp only [PT.chk, Bool.and_eq_true, beq_iff_eq] at hp
  obtain ⟨⟨hr, hfl⟩, hrest⟩ := hp
  have hmem : i ∈ Region.ready .any ops listed := by rw [hr]; simp
  obtain ⟨hun, o, ho, hall⟩ := mem_ready.1 hmem
  refine ⟨fun h0 => (by rw [h0] at hmem; cases hmem), fun j hj => ?_⟩
  rw [hr] at hj
  obtain rfl : j = i := by simpa using hj
  have h' : (if Region.wanted (opAt ops.toList j) (yielded ops a.tmps) = true then Oper.wp P (opAt ops.toList j) a w (fun a' w' => ∃ S', S' w' ∧ (bar = true ∨ S' = S) ∧ wpPT P ops Q r S' a' w') Q else wpPT P ops Q r S (a.put (opAt ops.toList j).dst undef) w) := h
  rw [opAt_eq ho] at h'
  exact eff ho hmem (Nat.le_refl _) (fun e => by rw [e] at hfl; simpa using hfl) hS hdc (fun S a w hS h => ih _ S a w hrest (hdc.set hmem) hS h) h'
 | two i bi j bj ri rj ihi ihj =>
  intro listed S a w hp hdc hS h
  simp only [PT.chk, Bool.and_eq_true] at hp
  obtain ⟨⟨⟨⟨⟨⟨⟨hbi, hbj⟩, hall⟩, hne⟩, hi⟩, hj⟩, hci⟩, hcj⟩ := hp
  have hi' : i ∈ Region.ready .any ops listed := by simpa using hi
  have hj' : j ∈ Region.ready .any ops listed := by simpa using hj
  obtain ⟨_, oi, hoi, _⟩ := mem_ready.1 hi'
  obtain ⟨_, oj, hoj, _⟩ := mem_ready.1 hj'
  obtain ⟨h1, h2⟩ := h
  rw [opAt_eq hoi] at h1
  rw [opAt_eq hoj] at h2
  refine ⟨fun h0 => (by rw [h0] at hi'; cases hi'), fun k hk => ?_⟩
  have hk2 := List.all_eq_true.1 hall k hk
  rw [Bool.or_eq_true] at hk2
  rcases hk2 with hk2 | hk2
  · obtain rfl := Nat.eq_of_beq_eq_true hk2
    exact eff (bar := bi) hoi hi' (Nat.le_max_left _ _) (fun e => by rw [e] at hbi; simpa using hbi) hS hdc (fun S a w hS h => ihi _ S a w hci (hdc.set hi') hS h) h1
  · obtain rfl := Nat.eq_of_beq_eq_true hk2
    exact eff (bar := bj) hoj hj' (Nat.le_max_right _ _) (fun e => by rw [e] at hbj; simpa using hbj) hS hdc (fun S a w hS h => ihj _ S a w hcj (hdc.set hj') hS h) h2
 | three i bi j bj k bk ri rj rk ihi ihj ihk =>
  intro listed S a w hp hdc hS h
  simp only [PT.chk, Bool.and_eq_true] at hp
  obtain ⟨⟨⟨⟨⟨⟨⟨hbi, hbj⟩, hbk⟩, hall⟩, hi⟩, hj⟩, hk⟩, hci, hcj, hck⟩ := hp
  have hi' : i ∈ Region.ready .any ops listed := by simpa using hi
  have hj' : j ∈ Region.ready .any ops listed := by simpa using hj
  have hk' : k ∈ Region.ready .any ops listed := by simpa using hk
  obtain ⟨_, oi, hoi, _⟩ := mem_ready.1 hi'
  obtain ⟨_, oj, hoj, _⟩ := mem_ready.1 hj'
  obtain ⟨_, ok, hok, _⟩ := mem_ready.1 hk'
  obtain ⟨h1, h2, h3⟩ := h
  rw [opAt_eq hoi] at h1
  rw [opAt_eq hoj] at h2
  rw [opAt_eq hok] at h3
  refine ⟨fun h0 => (by rw [h0] at hi'; cases hi'), fun q hq => ?_⟩
  have hk2 := List.all_eq_true.1 hall q hq
  rw [Bool.or_eq_true, Bool.or_eq_true] at hk2
  rcases hk2 with hk2 | hk2 | hk2
  · obtain rfl := Nat.eq_of_beq_eq_true hk2
    exact eff (bar := bi) hoi hi' (Nat.le_max_left _ _) (fun e => by rw [e] at hbi; simpa using hbi) hS hdc (fun S a w hS h => ihi _ S a w hci (hdc.set hi') hS h) h1
  · obtain rfl := Nat.eq_of_beq_eq_true hk2
    exact eff (bar := bj) hoj hj' (Nat.le_trans (Nat.le_max_left _ _) (Nat.le_max_right _ _)) (fun e => by rw [e] at hbj; simpa using hbj) hS hdc (fun S a w hS h => ihj _ S a w hcj (hdc.set hj') hS h) h2
  · obtain rfl := Nat.eq_of_beq_eq_true hk2
    exact eff (bar := bk) hok hk' (Nat.le_trans (Nat.le_max_right _ _) (Nat.le_max_right _ _)) (fun e => by rw [e] at hbk; simpa using hbk) hS hdc (fun S a w hS h => ihk _ S a w hck (hdc.set hk') hS h) h3
def vcEff1 (P : Program) (T : Tab) (N : Nat) (ops : List Oper) (o : Oper) (bar : Bool) (ih : HP → TM → HP → Nat → Prop) (h0 : HP) (t : TM) (h : HP) (n : Nat) : Prop :=
 vcGuard N ops o t (fun t => vcEff P T t h n o.op fun v h n => match bar with
  | true => putK N o.dst v t fun t => ih h t h n
  | false => extH h0 h0 h ∧ putK N o.dst v t fun t => ih h0 t h n) (fun t => ih h0 t h n)
def vcPT (P : Program) (T : Tab) (N : Nat) (ops : List Oper) : PT → HP → TM → HP → Nat → (TM → HP → Nat → Prop) → Prop := fun p =>
 PT.rec (motive := fun _ => HP → TM → HP → Nat → (TM → HP → Nat → Prop) → Prop) (fun _ t h n K => K t h n)
  (fun i _ ih h0 t h n K => vcGuard N ops (opAt ops i) t
   (fun t => vcVal P T t (match memOp (opAt ops i).op with | true => h0 | false => []) (opAt ops i).op fun v => putK N (opAt ops i).dst v t fun t => ih h0 t h n K)
   (fun t => ih h0 t h n K))
  (fun i bar _ ih h0 t h n K => vcEff1 P T N ops (opAt ops i) bar (fun h0 t h n => ih h0 t h n K) h0 t h n)
  (fun i bi j bj _ _ ihi ihj h0 t h n K => vcEff1 P T N ops (opAt ops i) bi (fun h0 t h n => ihi h0 t h n K) h0 t h n ∧ vcEff1 P T N ops (opAt ops j) bj (fun h0 t h n => ihj h0 t h n K) h0 t h n)
  (fun i bi j bj k bk _ _ _ ihi ihj ihk h0 t h n K => vcEff1 P T N ops (opAt ops i) bi (fun h0 t h n => ihi h0 t h n K) h0 t h n ∧ vcEff1 P T N ops (opAt ops j) bj (fun h0 t h n => ihj h0 t h n K) h0 t h n ∧ vcEff1 P T N ops (opAt ops k) bk (fun h0 t h n => ihk h0 t h n K) h0 t h n) p
theorem vcPT_ok {P : Program} {T : Tab} (hT : TabOk P T) {N : Nat} {ops : Array Oper} {ds : List Deferred} {F : Nat → Prop} {B : Nat} {w0 : World} :
 ∀ {p : PT} {h0 : HP} {n0 : Nat} {m0 : BM} {t : TM} {h : HP} {n : Nat} {K : TM → HP → Nat → Prop}, vcPT P T N ops.toList p h0 t h n K →
 ∀ m w a Q, m0.le m → HRel F B w0 m0 h0 n0 w → HRel F B w0 m h n w → TD ds m N t a → (∀ m' t' h' n' a' w', m.le m' → HRel F B w0 m' h' n' w' → TD ds m' N t' a' → K t' h' n' → Q .normal a' w') →
  wpPT P ops Q p (fun w' => HRel F B w0 m0 h0 n0 w') a w := by
 have eff : ∀ {o : Oper} {bar : Bool} {r : PT} {h0 : HP} {n0 : Nat} {m0 : BM} {t : TM} {h : HP} {n : Nat} {K : TM → HP → Nat → Prop} {Q : Exit → Act → World → Prop},
  (∀ {h0 : HP} {n0 : Nat} {m0 : BM} {t : TM} {h : HP} {n : Nat} {K : TM → HP → Nat → Prop}, vcPT P T N ops.toList r h0 t h n K →
   ∀ m w a Q, m0.le m → HRel F B w0 m0 h0 n0 w → HRel F B w0 m h n w → TD ds m N t a → (∀ m' t' h' n' a' w', m.le m' → HRel F B w0 m' h' n' w' → TD ds m' N t' a' → K t' h' n' → Q .normal a' w') → wpPT P ops Q r (fun w' => HRel F B w0 m0 h0 n0 w') a w) →
  vcEff1 P T N ops.toList o bar (fun h0 t h n => vcPT P T N ops.toList r h0 t h n K) h0 t h n →
  ∀ m w a, m0.le m → HRel F B w0 m0 h0 n0 w → HRel F B w0 m h n w → TD ds m N t a → (∀ m' t' h' n' a' w', m.le m' → HRel F B w0 m' h' n' w' → TD ds m' N t' a' → K t' h' n' → Q .normal a' w') →
  (if Region.wanted o (yielded ops a.tmps) = true then Oper.wp P o a w (fun a' w' => ∃ S', S' w' ∧ (bar = true ∨ S' = fun w' => HRel F B w0 m0 h0 n0 w') ∧ wpPT P ops Q r S' a' w') Q else wpPT P ops Q r (fun w' => HRel F B w0 m0 h0 n0 w') (a.put o.dst undef) w) := by
  intro o bar r h0 n0 m0 t h n K Q ih hv m w a hle HS H ht hq
  unfold vcEff1 at hv
  rcases vcGuard_ok hv ht with ⟨hw, t', ht', h2⟩ | ⟨hw, t', ht', h2⟩
  · rw [if_pos hw]
    refine Oper.wp_mono (fun a' w' ⟨m', v, c, h', n', hm, e, hvc, H', hk⟩ => ?_) (vcEff_ok hT h2 F B w0 m w N a Q H ht'.r)
    cases bar with
    | true =>
     obtain ⟨t2, hk, hput⟩ := putK_ok hk
     exact ⟨_, H', .inl rfl, ih hk m' w' a' Q (BM.le_refl m') H' H' (e ▸ hput (ht'.mono hm) hvc) fun m2 t3 h3 n3 a3 w3 hm2 => hq m2 t3 h3 n3 a3 w3 (BM.le_trans hm hm2)⟩
    | false =>
     obtain ⟨hext, hk⟩ := hk
     obtain ⟨t2, hk, hput⟩ := putK_ok hk
     have HS' := HS.down H' (BM.le_trans hle hm) hext
     exact ⟨_, HS', .inr rfl, ih hk m' w' a' Q (BM.le_trans hle hm) HS' H' (e ▸ hput (ht'.mono hm) hvc) fun m2 t3 h3 n3 a3 w3 hm2 => hq m2 t3 h3 n3 a3 w3 (BM.le_trans hm hm2)⟩
  · rw [if_neg (by rw [hw]; decide)]
    exact ih h2 m w _ Q hle HS H ht' hq
 intro p
 induction p with
 | nil => intro h0 n0 m0 t h n K hv m w a Q hle HS H ht hq; exact hq m t h n a w (BM.le_refl m) H ht hv
 | yes i r ih =>
  intro h0 n0 m0 t h n K hv m w a Q hle HS H ht hq
  replace hv : vcGuard N ops.toList (opAt ops.toList i) t (fun t => vcVal P T t (match memOp (opAt ops.toList i).op with | true => h0 | false => []) (opAt ops.toList i).op fun v => putK N (opAt ops.toList i).dst v t fun t => vcPT P T N ops.toList r h0 t h n K) (fun t => vcPT P T N ops.toList r h0 t h n K) := hv
  show ∃ v, YieldsIf P ops (match memOp (opAt ops.toList i).op with | true => (fun w' => HRel F B w0 m0 h0 n0 w') | false => fun _ => True) (opAt ops.toList i) v a ∧ wpPT P ops Q r (fun w' => HRel F B w0 m0 h0 n0 w') (a.put (opAt ops.toList i).dst v) w
  generalize opAt ops.toList i = o at hv ⊢
  rcases vcGuard_ok hv ht with ⟨hw, t', ht', h2⟩ | ⟨hw, t', ht', h2⟩
  · obtain ⟨v, hk, hp⟩ := vcVal_ok hT h2
    obtain ⟨t2, hk, hput⟩ := putK_ok hk
    have up : ∀ w', HRel F B w0 m0 h0 n0 w' → HRel F B w0 m h0 n w' := fun w' h => h.up hle H.fn H.fresh
    have key : ∃ c, VR m v c ∧ ∀ w', (match memOp o.op with | true => fun w' => HRel F B w0 m0 h0 n0 w' | false => fun _ => True : World → Prop) w' → (execOp a.eval o).run P w' = .ok (.value c) w' := by
     cases e : memOp o.op with
     | true =>
      rw [e] at hp
      obtain ⟨c, hc, hr⟩ := hp F B w0 m n w N a (up w HS) ht'.r
      refine ⟨c, hc, fun w' h' => ?_⟩
      obtain ⟨c', hc', hr'⟩ := hp F B w0 m n w' N a (up w' h') ht'.r
      rw [hr', VR.fn H.fn hc' hc]
     | false =>
      rw [e] at hp
      obtain ⟨c, hc, hr⟩ := hp _ _ _ m n w N a (H.any w) ht'.r
      refine ⟨c, hc, fun w' _ => ?_⟩
      obtain ⟨c', hc', hr'⟩ := hp _ _ _ m n w' N a (H.any w') ht'.r
      rw [hr', VR.fn H.fn hc' hc]
    obtain ⟨c, hc, hy⟩ := key
    exact ⟨c, .inl ⟨hw, hy⟩, ih hk m w _ Q hle HS H (hput ht' hc) hq⟩
  · exact ⟨undef, .inr ⟨hw, rfl⟩, ih h2 m w _ Q hle HS H ht' hq⟩
 | one i bar r ih =>
  intro h0 n0 m0 t h n K hv m w a Q hle HS H ht hq
  exact eff (o := opAt ops.toList i) (bar := bar) (r := r) ih hv m w a hle HS H ht hq
 | two i bi j bj ri rj ihi ihj =>
  intro h0 n0 m0 t h n K hv m w a Q hle HS H ht hq
  obtain ⟨h1, h2⟩ : vcEff1 P T N ops.toList (opAt ops.toList i) bi (fun h0 t h n => vcPT P T N ops.toList ri h0 t h n K) h0 t h n ∧ vcEff1 P T N ops.toList (opAt ops.toList j) bj (fun h0 t h n => vcPT P T N ops.toList rj h0 t h n K) h0 t h n := hv
  exact ⟨eff (Q := Q) (o := opAt ops.toList i) (bar := bi) (r := ri) ihi h1 m w a hle HS H ht hq, eff (Q := Q) (o := opAt ops.toList j) (bar := bj) (r := rj) ihj h2 m w a hle HS H ht hq⟩
 | three i bi j bj k bk ri rj rk ihi ihj ihk =>
  intro h0 n0 m0 t h n K hv m w a Q hle HS H ht hq
  obtain ⟨h1, h2, h3⟩ : vcEff1 P T N ops.toList (opAt ops.toList i) bi (fun h0 t h n => vcPT P T N ops.toList ri h0 t h n K) h0 t h n ∧ vcEff1 P T N ops.toList (opAt ops.toList j) bj (fun h0 t h n => vcPT P T N ops.toList rj h0 t h n K) h0 t h n ∧ vcEff1 P T N ops.toList (opAt ops.toList k) bk (fun h0 t h n => vcPT P T N ops.toList rk h0 t h n K) h0 t h n := hv
  exact ⟨eff (Q := Q) (o := opAt ops.toList i) (bar := bi) (r := ri) ihi h1 m w a hle HS H ht hq, eff (Q := Q) (o := opAt ops.toList j) (bar := bj) (r := rj) ihj h2 m w a hle HS H ht hq, eff (Q := Q) (o := opAt ops.toList k) (bar := bk) (r := rk) ihk h3 m w a hle HS H ht hq⟩
def ptChk (ops : List Oper) (p : PT) : Bool := Region.noSelect ops.toArray && Nat.ble p.len ops.toArray.size && p.chk ops.toArray p.bars (Array.replicate ops.toArray.size false)
theorem reg_fork {P : Program} {T : Tab} (hT : TabOk P T) (hmix : P.follows .mixedOrders = true) {N np id : Nat} {ops : Array Oper} {K : TM → HP → Nat → Prop} {t : TM} {h : HP} {n : Nat} (p : PT) (hc : ptChk ops.toList p = true)
 (hv : vcPT P T N ops.toList p h t h n K) : RegOb P N np id ops K t h n := by
 refine ⟨fun ds F B w0 m w a H ht => ?_⟩
 unfold ptChk at hc
 rw [show ops.toList.toArray = ops by simp] at hc
 simp only [Bool.and_eq_true] at hc
 obtain ⟨⟨h1, h2⟩, h3⟩ := hc
 have hdc : DC ops (Array.replicate ops.size false) := by
  intro j o ho hj
  have hlt : j < ops.size := by
   rcases Nat.lt_or_ge j ops.size with h | h
   · exact h
   · rw [Array.getElem?_eq_none h] at ho; cases ho
  simp [hlt] at hj
 have H' := H.later (Below.drew' w)
 have hw := vcPT_ok (ops := ops) hT hv m w.drew a (fun e a' w' => e = .normal ∧ ∃ m' t' h' n', BM.leN np m m' ∧ HRel F B w0 m' h' n' w' ∧ TD ds m' N t' a' ∧ K t' h' n') (BM.le_refl m) H' H' ht fun m' t' h' n' a' w' hm H' ht' hk => ⟨rfl, m', t', h', n', hm.leN, H', ht', hk⟩
 have := PT.sound (P := P) h1 (fun c a t v w hq => by cases hq.1) p _ _ a w.drew h3 hdc H' hw
 exact wp_region_any hmix (wpAny_of_D _ _ _ _ _ (wpAnyD_more (Nat.le_of_ble_eq_true h2) this))
end Go.Proofs.YtelolcagncgfpaaGreat
