/- A generator of conditions for a walk, part 6: what is held of memory that is written, appended to, made. No program in sight. -/
import Derived.Test.YtelolcagncgfpaaGreatEngE
namespace Go.Proofs.YtelolcagncgfpaaGreat
open Go.RowKit
set_option linter.unusedSimpArgs false
set_option linter.unusedVariables false
def upH : HP → Nat → Itm → HP
 | [], _, _ => []
 | (j, x) :: r, i, it => bif Nat.beq j i then (j, it) :: r else (j, x) :: upH r i it
theorem beq_refl' (a : Nat) : Nat.beq a a = true := Nat.beq_refl a
theorem lkH_up {it : Itm} : ∀ {h : HP} {b i : Nat} {x : Itm}, lkH h b = some x → lkH (upH h b it) i = if i = b then some it else lkH h i
 | (j, y) :: r, b, i, x, e => by
  unfold upH
  cases hj : Nat.beq j b with
  | true =>
   have : j = b := Nat.eq_of_beq_eq_true hj
   subst this
   simp only [cond_true, lkH]
   by_cases hi : i = j
   · subst hi; simp
   · rw [beq_no (fun x => hi x.symm)]; simp [hi]
  | false =>
   have e' : lkH r b = some x := by simpa [lkH, hj] using e
   simp only [cond_false, lkH]
   by_cases hji : j = i
   · subst hji
     have : ¬ j = b := fun x => by subst x; rw [beq_refl'] at hj; cases hj
     simp [this]
   · rw [beq_no hji]; simpa using lkH_up (i := i) e'
section
variable {F : Nat → Prop} {B : Nat} {w0 : World} {m : BM} {h : HP} {n : Nat} {w w' : World}
theorem HRel.at (H : HRel F B w0 m h n w) {i : Nat} {it : Itm} (e : lkH h i = some it) {g s : Nat} (hm : m i g s) : ItmOk F B m w g s it := by
 obtain ⟨g', s', x, y⟩ := H.dom i it e
 obtain ⟨rfl, rfl⟩ := H.fn _ _ _ _ _ hm x
 exact y
theorem HRel.upd (H : HRel F B w0 m h n w) {b : Nat} {it it' : Itm} (e : lkH h b = some it) (hmine : it.mine = true) (hmine' : it'.mine = true) (h1 : it.one = true) (h1' : it'.one = true) {g : Nat} (hm : m b g 0) (hg : B ≤ g ∨ F g)
 (hw : ∀ k, k ≠ g → w'.heap[k]? = w.heap[k]?) (hs : w'.heap.size = w.heap.size) (ho : w'.os = w.os) (ht : w'.tape = w.tape) (hp : w'.output = w.output) (ok : ItmOk F B m w' g 0 it') :
 HRel F B w0 m (upH h b it') n w' := by
 refine ⟨H.keep.trans ⟨ho, ht, hp, Nat.le_of_eq hs.symm, fun k hk hf => hw k fun x => ?_⟩, H.base, H.fn, H.fresh, ?_, ?_⟩
 · subst x; rcases hg with hg | hg
   · omega
   · exact hf hg
 · intro i jt e2
   rw [lkH_up e] at e2
   by_cases hi : i = b
   · subst hi; rw [if_pos rfl] at e2; cases e2; exact ⟨g, 0, hm, ok⟩
   · rw [if_neg hi] at e2
     obtain ⟨g2, s2, x, y⟩ := H.dom i jt e2
     refine ⟨g2, s2, x, y.same (Nat.le_of_eq hs.symm) fun b2 hb2 _ => hw b2 fun z => ?_⟩
     subst z
     exact H.sep b it i jt b2 0 g2 s2 b2 e hmine e2 (fun z => hi z.symm) hm x ((Itm.blk_one h1).2 ⟨zero_ne_nilS, rfl⟩) hb2
 · intro i it1 j jt g1 s1 g2 s2 b2 e1 hm1 e2 hij x y hb1 hb2
   rw [lkH_up e] at e1 e2
   by_cases hi : i = b
   · subst hi
     rw [if_pos rfl] at e1
     cases e1
     rw [if_neg (fun z => hij z.symm)] at e2
     exact H.sep i it j jt g1 s1 g2 s2 b2 e hmine e2 hij x y ((Itm.blk_one h1).2 ((Itm.blk_one h1').1 hb1)) hb2
   · rw [if_neg hi] at e1
     by_cases hj : j = b
     · subst hj
       rw [if_pos rfl] at e2
       cases e2
       exact H.sep i it1 j it g1 s1 g2 s2 b2 e1 hm1 e hi x y hb1 ((Itm.blk_one h1).2 ((Itm.blk_one h1').1 hb2))
     · rw [if_neg hj] at e2
       exact H.sep i it1 j jt g1 s1 g2 s2 b2 e1 hm1 e2 hij x y hb1 hb2
theorem HRel.move (H : HRel F B w0 m h n w) {b : Nat} {it it' : Itm} (e : lkH h b = some it) (hmine : it.mine = true) (h1 : it.one = true) (h1' : it'.one = true) {g g' : Nat} (hm : m b g 0) (hg : B ≤ g ∨ F g)
 (hw : ∀ k, k < w.heap.size → k ≠ g → w'.heap[k]? = w.heap[k]?) (hs : w.heap.size ≤ w'.heap.size) (ho : w'.os = w.os) (ht : w'.tape = w.tape) (hp : w'.output = w.output)
 (hg' : g' = g ∨ w.heap.size ≤ g') (ok : ItmOk F B (m.add n g') w' g' 0 it') :
 HRel F B w0 (m.add n g') ((n, it') :: rmH h b) (n + 1) w' := by
 have old : ∀ i g' s, m i g' s → i ≠ n := fun i g' s x e => by have := H.fresh i g' s x; omega
 have look : ∀ k kt, k ≠ n → lkH ((n, it') :: rmH h b) k = some kt → lkH h k = some kt ∧ k ≠ b := fun k kt hk e => by
  unfold lkH at e
  rw [beq_no fun x => hk x.symm] at e
  have e : lkH (rmH h b) k = some kt := e
  rw [lkH_rm] at e
  split at e
  · cases e
  · rename_i hkb; exact ⟨e, hkb⟩
 have far : ∀ i it1 g1 s1, lkH h i = some it1 → i ≠ b → m i g1 s1 → ¬ it1.blk g1 s1 g' := fun i it1 g1 s1 e1 hib x hn => by
  rcases hg' with rfl | hg'
  · exact H.sep b it i it1 g' 0 g1 s1 g' e hmine e1 (fun z => hib z.symm) hm x ((Itm.blk_one h1).2 ⟨zero_ne_nilS, rfl⟩) hn
  · have := (H.at e1 x).lt hn
    omega
 have here : ∀ kt, lkH ((n, it') :: rmH h b) n = some kt → kt = it' := fun kt e => by simpa [lkH] using e.symm
 have hB : B ≤ w.heap.size := H.base'
 refine ⟨H.keep.trans ⟨ho, ht, hp, hs, fun k hk hf => hw k (by omega) (by rintro rfl; exact hg.elim (fun hg => by omega) hf)⟩, H.base, ?_, ?_, ?_, ?_⟩
 · rintro i a s a' s' (x | ⟨rfl, rfl, rfl⟩) (y | ⟨e, rfl, rfl⟩)
   · exact H.fn _ _ _ _ _ x y
   · exact absurd e (old _ _ _ x)
   · exact absurd rfl (old _ _ _ y)
   · exact ⟨rfl, rfl⟩
 · rintro i a s (x | ⟨rfl, -, -⟩)
   · have := H.fresh _ _ _ x; omega
   · omega
 · intro i jt e2
   by_cases hin : i = n
   · subst hin
     have : jt = it' := by simpa [lkH] using e2.symm
     subst this
     exact ⟨g', 0, .inr ⟨rfl, rfl, rfl⟩, ok⟩
   · obtain ⟨e3, hib⟩ := look i jt hin e2
     obtain ⟨g2, s2, x, y⟩ := H.dom i jt e3
     refine ⟨g2, s2, .inl x, (y.same hs fun b2 hb2 hlt => hw b2 hlt fun z => ?_).mono (BM.le_add m n g')⟩
     subst z
     exact H.sep b it i jt b2 0 g2 s2 b2 e hmine e3 (fun z => hib z.symm) hm x ((Itm.blk_one h1).2 ⟨zero_ne_nilS, rfl⟩) hb2
 · intro i it1 j jt g1 s1 g2 s2 b2 e1 hm1 e2 hij x y hb1 hb2
   rcases x with x | ⟨rfl, rfl, rfl⟩
   · obtain ⟨e1', hib⟩ := look i it1 (old _ _ _ x) e1
     rcases y with y | ⟨rfl, rfl, rfl⟩
     · obtain ⟨e2', hjb⟩ := look j jt (old _ _ _ y) e2
       exact H.sep i it1 j jt g1 s1 g2 s2 b2 e1' hm1 e2' hij x y hb1 hb2
     · obtain rfl := here jt e2
       obtain ⟨_, rfl⟩ := (Itm.blk_one h1').1 hb2
       exact far i it1 g1 s1 e1' hib x hb1
   · obtain rfl := here it1 e1
     obtain ⟨_, rfl⟩ := (Itm.blk_one h1').1 hb1
     rcases y with y | ⟨z, -, -⟩
     · obtain ⟨e2', hjb⟩ := look j jt (old _ _ _ y) e2
       exact far j jt g2 s2 e2' hjb y hb2
     · exact absurd z.symm hij
end
def putL : List Value → Nat → List Value → List Value
 | cs, _, [] => cs
 | cs, o, v :: vs => putL (cs.set o v) (o + 1) vs
theorem putL_length : ∀ (vs cs : List Value) (o : Nat), (putL cs o vs).length = cs.length
 | [], _, _ => rfl
 | v :: vs, cs, o => by simp [putL, putL_length vs]
theorem LR.put {R : Value → Value → Prop} : ∀ {vs vs' cs cs' : List Value} (o : Nat), LR R vs vs' → LR R cs cs' → LR R (putL cs o vs) (putL cs' o vs')
 | [], [], _, _, _, _, h => h
 | _ :: _, _ :: _, _, _, o, h, h' => LR.put (o + 1) h.2 (h'.set o h.1)
theorem run_storeCells_blk {P : Program} (g : Nat) (ty : TypeId) : ∀ (vs : List Value) (cs : Array Value) (i o : Nat) (w : World), w.heap[g]? = some (.cells cs ty (0, 0)) → o + i + vs.length ≤ cs.size → (∀ v ∈ vs, v.oneCell' = true) →
 ∃ w', (storeCells ⟨g, o, none⟩ vs i).run P w = .ok () w' ∧ w'.heap[g]? = some (.cells (putL cs.toList (o + i) vs).toArray ty (0, 0)) ∧ (∀ k, k ≠ g → w'.heap[k]? = w.heap[k]?) ∧ w'.heap.size = w.heap.size ∧ w'.os = w.os ∧ w'.tape = w.tape ∧ w'.output = w.output
 | [], cs, i, o, w, h, _, _ => ⟨w, by simp [storeCells], by simpa [putL] using h, fun _ _ => rfl, rfl, rfl, rfl, rfl⟩
 | v :: vs, cs, i, o, w, h, hb, h1 => by
  have hlt : o + i < cs.size := by simp at hb; omega
  have hcell : w.cell? ⟨g, o + i, none⟩ = some cs[o + i] := by rw [cell_of_row w g _ cs ty (0, 0) h]; simp [hlt]
  have hfr : w.frozen? ⟨g, o + i, none⟩ = false := by simp [World.frozen?, h]
  have hset : (w.setCell ⟨g, o + i, none⟩ v).heap[g]? = some (.cells (cs.setIfInBounds (o + i) v) ty (0, 0)) := by
   simp [World.setCell, Array.getElem?_modify, h]
  obtain ⟨w', hr, hh, hk, hs, a, b, c⟩ := run_storeCells_blk (P := P) g ty vs (cs.setIfInBounds (o + i) v) (i + 1) o (w.setCell ⟨g, o + i, none⟩ v) hset (by simp at hb ⊢; omega) (fun u hu => h1 u (by simp [hu]))
  refine ⟨w', ?_, ?_, ?_, ?_, a, b, c⟩
  · simp only [storeCells, Sem.run_bind, add_lit', run_store P w _ v _ (h1 v (by simp)), hcell, hfr]
    simpa using hr
  · rw [hh]
    simp [putL, Nat.add_assoc]
  · intro k hkg
    rw [hk k hkg]
    exact Below.heap_setCell w ⟨g, o + i, none⟩ v k hkg
  · rw [hs]; simp [World.setCell]
def Itm.put (it : Itm) (o : Nat) (vs : List Value) : Option Itm :=
 match it with
 | .own ty cs => some (.own ty (putL cs o vs))
 | .row ty size cap cs => some (.row ty size cap (putL cs o vs))
 | .lst ty size cap cs => some (.lst ty size cap (putL cs o vs))
 | .view _ => none
 | .lview _ => none
 | .mp _ _ => none
 | .gv _ _ => none
 | .abs _ _ _ => none
theorem putL_take : ∀ (vs cs : List Value) (o k : Nat), o + vs.length ≤ k → (putL cs o vs).take k = putL (cs.take k) o vs
 | [], _, _, _, _ => rfl
 | v :: vs, cs, o, k, h => by
  simp only [putL]
  rw [putL_take vs _ (o + 1) k (by simp at h; omega)]
  congr 1
  rw [List.take_set]
def forceI (it : Itm) (K : Itm → Prop) : Prop := match it with | .own ty cs => forceL cs fun cs => K (.own ty cs) | it => K it
theorem forceI_ok {it : Itm} {K : Itm → Prop} (h : forceI it K) : K it := by
 cases it <;> first | exact (forceL_ok h).1 | exact h
def upF : HP → Nat → Itm → (HP → Prop) → Prop
 | [], _, _, K => K []
 | (j, x) :: r, i, it, K => match Nat.beq j i with | true => K ((j, it) :: r) | false => upF r i it fun r => K ((j, x) :: r)
theorem upF_ok : ∀ {h : HP} {i : Nat} {it : Itm} {K : HP → Prop}, upF h i it K → K (upH h i it)
 | [], _, _, _, h => h
 | (j, x) :: r, i, it, K, h => by
  unfold upF at h
  unfold upH
  cases e : Nat.beq j i with
  | true => rw [e] at h; exact h
  | false => rw [e] at h; exact upF_ok h
def vcStore (T : Tab) (h : HP) (ty : TypeId) (p v : Value) (K : HP → Prop) : Prop :=
 match p with
 | .pointer (some ⟨b, o, none⟩) => onS (lkH h b) fun it => onS (lkR T ty) fun r =>
  match v with
  | .agg vs => chk (Nat.ble (o + r.size) it.cells.length) <| chk (Nat.beq vs.toList.length r.size) <| forceL vs.toList fun vs => onS (it.put o vs) fun it => forceI it fun it => upF h b it K
  | v => chk (Nat.blt o it.cells.length) <| chk (Nat.beq r.size 1) <| forceV v fun v => onS (it.put o [v]) fun it => forceI it fun it => upF h b it K
 | _ => False
theorem V1.one {m : BM} {v c : Value} (h1 : v.oneCell' = true) (h : V1 m v c) : c.oneCell' = true := by
 unfold V1 at h
 cases e : parts1 v with
 | none =>
  rw [e] at h
  unfold V0 at h
  cases em : mark v with
  | some q =>
   obtain ⟨b, o, n, k⟩ := q
   rw [em] at h
   obtain ⟨_, _, _, ⟨_, _, _, rfl⟩ | ⟨_, rfl⟩⟩ := h <;> rfl
  | none =>
  rw [em] at h
  dsimp only at h
  cases e2 : ref0 v with
  | none => rw [e2] at h; rw [h]; exact h1
  | some x =>
   rw [e2] at h
   obtain ⟨b, _, rfl⟩ := h
   unfold ref0 at e2
   split at e2 <;> first | (cases e2; done) | (simp at e2; obtain ⟨rfl, rfl⟩ := e2; rfl) | (simp at e2; done)
 | some x =>
  rw [e] at h
  obtain ⟨l', _, rfl⟩ := h
  unfold parts1 at e
  split at e
  · cases h1
  · simp at e; obtain ⟨rfl, rfl⟩ := e; rfl
  · simp at e; obtain ⟨rfl, rfl⟩ := e; rfl
  · cases e
theorem HRel.store {P : Program} {F : Nat → Prop} {B : Nat} {w0 : World} {m : BM} {h : HP} {n : Nat} {w : World} (H : HRel F B w0 m h n w) {b o g s : Nat} {it it' : Itm} {vs cs : List Value}
 (e : lkH h b = some it) (hm : m b g s) (hs : s ≠ nilS) (hp : it.put o vs = some it') (hl : o + vs.length ≤ it.cells.length) (hv : LR (V1 m) vs cs) (h1 : ∀ v ∈ vs, v.oneCell' = true) :
 ∃ w', (storeCells ⟨g, o + sh s, none⟩ cs 0).run P w = .ok () w' ∧ HRel F B w0 m (upH h b it') n w' := by
 have ok := H.at e hm
 have h1' : ∀ c ∈ cs, c.oneCell' = true := by
  intro c hc
  obtain ⟨i, hi⟩ := List.mem_iff_getElem?.1 hc
  have hlt : i < vs.length := by
   rw [← hv.length]
   rcases Nat.lt_or_ge i cs.length with h | h
   · exact h
   · rw [List.getElem?_eq_none h] at hi; cases hi
  obtain ⟨c', hc', hr⟩ := hv.get (List.getElem?_eq_getElem hlt)
  rw [hi] at hc'
  cases hc'
  exact V1.one (h1 _ (List.getElem_mem hlt)) hr
 have hlen := hv.length
 have rowCase : ∀ {ty : TypeId} {size cap : Nat} {c : List Value} {mk : List Value → Itm}, it.mine = true → (∀ cs, (mk cs).mine = true) → it.one = true → (∀ cs, (mk cs).one = true) → s = 0 → RowIs F B m w g ty size cap c → it' = mk (putL c o vs) → it.cells = c →
  (∀ w' cs, RowIs F B m w' g ty size cap cs → ItmOk F B m w' g 0 (mk cs)) → ∃ w', (storeCells ⟨g, o + sh s, none⟩ cs 0).run P w = .ok () w' ∧ HRel F B w0 m (upH h b it') n w' := by
  rintro ty size cap c mk hmine hmk ho1 ho2 rfl ⟨hg, hcap, l, cur, hl1, hb, hsz, htk, hle⟩ rfl hcl hmkok
  have hll := hl1.length
  rw [hcl] at hl
  obtain ⟨w', hr, hh, hk, hs, ha, hbb, hc⟩ := run_storeCells_blk (P := P) g ty cs cur 0 o w hb (by omega) h1'
  refine ⟨w', hr, H.upd e hmine (hmk _) ho1 (ho2 _) hm hg hk hs ha hbb hc (hmkok _ _ ⟨hg, hcap, _, _, LR.put o hv hl1, hh, ?_, ?_, ?_⟩)⟩
  · simp [putL_length, hsz]
  · simp only [putL_length]
    show (putL cur.toList (o + 0) cs).take l.length = _
    rw [putL_take cs _ _ _ (by omega), htk]; rfl
  · simpa [putL_length] using hle
 cases it with
 | view c => cases hp
 | lview c => cases hp
 | mp ks vs => cases hp
 | gv g0 o => cases hp
 | abs wr S Φ => cases hp
 | lst ty size cap c =>
  cases hp
  rcases ok with ⟨x, _⟩ | ⟨h0, ok⟩
  · exact absurd x hs
  · exact rowCase (mk := fun cs => .lst ty size cap cs) rfl (fun _ => rfl) rfl (fun _ => rfl) h0 ok rfl rfl fun _ _ x => .inr ⟨rfl, x⟩
 | own ty c =>
  cases hp
  obtain ⟨rfl, hg, l, hl1, hb⟩ := ok
  have hll := hl1.length
  obtain ⟨w', hr, hh, hk, hs, ha, hbb, hc⟩ := run_storeCells_blk (P := P) g ty cs l.toArray 0 o w hb (by simp [Itm.cells] at hl ⊢; omega) h1'
  exact ⟨w', hr, H.upd e rfl rfl rfl rfl hm hg hk hs ha hbb hc ⟨rfl, hg, _, LR.put o hv hl1, hh⟩⟩
 | row ty size cap c =>
  cases hp
  obtain ⟨h0, ok⟩ := ok
  exact rowCase (mk := fun cs => .row ty size cap cs) rfl (fun _ => rfl) rfl (fun _ => rfl) h0 ok rfl rfl fun _ _ x => ⟨rfl, x⟩
end Go.Proofs.YtelolcagncgfpaaGreat
