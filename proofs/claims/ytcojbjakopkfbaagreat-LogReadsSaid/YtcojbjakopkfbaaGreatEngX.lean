/- A generator of conditions for a walk, part 20: slices inside what came in: told as the world's own; what is known of them; taken out at a call. No program in sight. -/
import Derived.Test.YtcojbjakopkfbaaGreatEngW
namespace Go.Proofs.YtcojbjakopkfbaaGreat
open Go.RowKit
set_option linter.unusedSimpArgs false
set_option linter.unusedVariables false
def rsl : Value → Value
 | .slice p l k => .slice (some ⟨wcode p, 0, some 3⟩) l k
 | v => v
theorem rsl_V0 {m : BM} {p : Option Addr} {l k : Nat} {c : Value} : V0 m (rsl (.slice p l k)) c ↔ c = .slice p l k := by
 have key : slcF l k ⟨wcode p, 0, some 1⟩ = .slice p l k := by
  show Value.slice (weird (wcode p)) l k = _
  rw [weird_code]
 constructor
 · rintro ⟨d, hd, rfl⟩
   have hd : A0 m ⟨wcode p, 0, some 3⟩ d := hd
   rw [(A0.rig rfl).1 hd]
   exact key
 · rintro rfl
   exact ⟨_, (A0.rig (m := m) (g := wcode p) (o := 0) (p := some 3) rfl).2 rfl, key.symm⟩
theorem rsl_still {p : Option Addr} {l k : Nat} : still1 (rsl (.slice p l k)) = true := rfl
def SlcIn (N : Nat) (w : World) (v : Value) (len cap : Nat) (cells : List Value) : Prop :=
 (∃ a, v = .slice a 0 0 ∧ len = 0 ∧ cap = 0 ∧ cells = []) ∨
 ∃ a : Addr, v = .slice (some a) len cap ∧ a.spot = none ∧ a.block < N ∧ ∀ j u, cells[j]? = some u → w.cell? (a.add j) = some u
theorem SlcAt.slcIn {w : World} {v : Value} {len cap : Nat} {cells : List Value} (h : SlcAt w v len cap cells) : SlcIn w.heap.size w v len cap cells := h
theorem SlcIn.at {N : Nat} {w : World} {v : Value} {len cap : Nat} {cells : List Value} (h : SlcIn N w v len cap cells) (hN : N ≤ w.heap.size) : SlcAt w v len cap cells :=
 h.imp id fun ⟨a, h1, h2, h3, h4⟩ => ⟨a, h1, h2, Nat.lt_of_lt_of_le h3 hN, h4⟩
theorem SlcIn.slice {N : Nat} {w : World} {v : Value} {len cap : Nat} {cells : List Value} (h : SlcIn N w v len cap cells) : ∃ p, v = .slice p len cap := by
 rcases h with ⟨a, rfl, rfl, rfl, _⟩ | ⟨a, rfl, _⟩ <;> exact ⟨_, rfl⟩
theorem SlcIn.same {N : Nat} {w w' : World} {v : Value} {len cap : Nat} {cells : List Value} (hb : ∀ b, b < N → w'.heap[b]? = w.heap[b]?) (h : SlcIn N w v len cap cells) : SlcIn N w' v len cap cells :=
 h.imp id fun ⟨a, h1, h2, h3, h4⟩ => ⟨a, h1, h2, h3, fun j u hj => by
  obtain ⟨b, o, s⟩ := a
  dsimp only at h2 h3
  subst h2
  have h5 := h4 j u hj
  rw [add_lit'] at h5 ⊢
  rw [World.cell?_of_block (w := w) (a := ⟨b, o + j, none⟩) (hb _ h3)]
  exact h5⟩
section
variable {F : Nat → Prop} {B : Nat} {w0 : World} {m : BM} {h : HP} {n : Nat} {w : World}
theorem HRel.put0 (H : HRel F B w0 m h n w) (hv : ∀ i it, lkH h i = some it → it.mine = false) {it : Itm} (hm : it.mine = false) {g s : Nat} (ok : ItmOk F B (m.put n g s) w g s it) :
 HRel F B w0 (m.put n g s) ((n, it) :: h) (n + 1) w ∧ (∀ i jt, lkH ((n, it) :: h) i = some jt → jt.mine = false) := by
 have hmine : ∀ i jt, lkH ((n, it) :: h) i = some jt → jt.mine = false := fun i jt e => by
  by_cases hi : n = i
  · subst hi
    have : jt = it := by simpa [lkH] using e.symm
    subst this; exact hm
  · unfold lkH at e
    rw [beq_no hi] at e
    exact hv i jt e
 refine ⟨⟨H.keep, H.base, ?_, ?_, ?_, ?_⟩, hmine⟩
 · rintro i g1 s1 g2 s2 (x | ⟨rfl, rfl, rfl⟩) (y | ⟨e, rfl, rfl⟩)
   · exact H.fn _ _ _ _ _ x y
   · have := H.fresh _ _ _ x; omega
   · have := H.fresh _ _ _ y; omega
   · exact ⟨rfl, rfl⟩
 · rintro i g1 s1 (x | ⟨rfl, -, -⟩)
   · have := H.fresh _ _ _ x; omega
   · omega
 · intro i jt e
   by_cases hi : n = i
   · subst hi
     have : jt = it := by simpa [lkH] using e.symm
     subst this
     exact ⟨g, s, .inr ⟨rfl, rfl, rfl⟩, ok⟩
   · unfold lkH at e
     rw [beq_no hi] at e
     obtain ⟨g', s', x, ok'⟩ := H.dom i jt e
     exact ⟨g', s', .inl x, ok'.mono (BM.le_put m n g s)⟩
 · intro i it1 j jt g1 s1 g2 s2 b e hm1
   rw [hmine i it1 e] at hm1; cases hm1
theorem slc_view {N : Nat} {cells cells' : List Value} (hf : ∀ m : BM, LR (V1 m) cells' cells) {v : Value} {len cap : Nat} (S : SlcIn N w v len cap cells) (hN : N ≤ w.heap.size) (k : Nat) (m : BM) :
 ∃ g s, ItmOk F B (m.put k g s) w g s (.lview cells') ∧ V0 (m.put k g s) (mslice k len cap) v ∧ (s ≠ nilS → g < N) := by
 rcases S with ⟨a, rfl, rfl, rfl, rfl⟩ | ⟨a, rfl, hsp, hlt, hc⟩
 · have hc' : cells' = [] := by
    have := hf m
    cases cells' with
    | nil => rfl
    | cons _ _ => exact this.elim
   subst hc'
   exact ⟨wcode a, nilS, .inl ⟨rfl, rfl⟩, ⟨wcode a, nilS, .inr ⟨rfl, rfl, rfl⟩, .inl ⟨rfl, rfl, rfl, by rw [weird_code]⟩⟩, fun h => absurd rfl h⟩
 · obtain ⟨s, hs, hoff⟩ := sh_all a.off
   refine ⟨a.block, s, .inr ⟨Nat.lt_of_lt_of_le hlt hN, hs, cells, hf _, fun j u hj => ?_⟩, ⟨a.block, s, .inr ⟨rfl, rfl, rfl⟩, .inr ⟨hs, ?_⟩⟩, fun _ => hlt⟩
   · have := hc j u hj
     rw [hoff]
     obtain ⟨b, o, p⟩ := a
     dsimp only at hsp
     subst hsp
     rw [add_lit'] at this
     exact this
   · obtain ⟨b, o, p⟩ := a
     dsimp only at hsp hoff ⊢
     subst hsp
     rw [hoff, Nat.zero_add]
theorem HRel.seeR (H : HRel F B w0 m h n w) (hv : ∀ i it, lkH h i = some it → it.mine = false) {v : Value} {len cap : Nat} {cells cells' : List Value} (S : SlcAt w v len cap cells) (hf : ∀ m : BM, LR (V1 m) cells' cells) :
 ∃ m', m.le m' ∧ HRel F B w0 m' ((n, .lview cells') :: h) (n + 1) w ∧ (∀ i it, lkH ((n, .lview cells') :: h) i = some it → it.mine = false) ∧ V0 m' (mslice n len cap) v := by
 obtain ⟨g, s, ok, hv', _⟩ := slc_view (F := F) (B := B) hf S.slcIn (Nat.le_refl _) n m
 obtain ⟨h1, h2⟩ := H.put0 hv (it := .lview cells') rfl ok
 exact ⟨_, BM.le_put _ _ _ _, h1, h2, hv'⟩
theorem HRel.fact (H : HRel F B w0 m h n w) (hv : ∀ i it, lkH h i = some it → it.mine = false) (S : Nat → Prop) (Φ : World → Prop) (h1 : ∀ b, S b → b < w.heap.size) (st : Stab S Φ) (hΦ : Φ w) :
 ∃ m', m.le m' ∧ HRel F B w0 m' ((n, .abs false S (fun _ => Φ)) :: h) (n + 1) w ∧ (∀ i it, lkH ((n, .abs false S (fun _ => Φ)) :: h) i = some it → it.mine = false) := by
 obtain ⟨a, b⟩ := H.put0 hv (it := .abs false S (fun _ => Φ)) rfl (g := 0) (s := nilS) ⟨.inl ⟨rfl, rfl⟩, h1, (fun e => by cases e), st, hΦ⟩
 exact ⟨_, BM.le_put _ _ _ _, a, b⟩
theorem HRel.seeAbs (H : HRel F B w0 m h n w) {i N : Nat} {Φ : Nat → World → Prop} (e : lkH h i = some (.abs false (fun b => b < N) Φ)) {v : Value} {len cap : Nat} {cells : List Value} (S : ∀ q, Φ q w → SlcIn N w v len cap cells) (hf : ∀ u ∈ cells, flat1 u = true) :
 ∃ m', m.le m' ∧ HRel F B w0 m' ((n, .lview cells) :: h) (n + 1) w ∧ V0 m' (mslice n len cap) v := by
 obtain ⟨gi, si, hi, ok0⟩ := H.dom i _ e
 have hN : N ≤ w.heap.size := by
  rcases Nat.eq_zero_or_pos N with h0 | h0
  · omega
  · have := ok0.2.1 (N - 1) (by show N - 1 < N; omega); omega
 have hin := S gi ok0.2.2.2.2
 obtain ⟨g, s, ok, hv', hgN⟩ := slc_view (F := F) (B := B) (cells' := cells) (fun m => LR.refl_of fun u hu => (V1.flat (hf u hu)).2 rfl) hin hN n m
 refine ⟨_, BM.le_put m n g s, ⟨H.keep, H.base, ?_, ?_, ?_, ?_⟩, hv'⟩
 · rintro j g1 s1 g2 s2 (x | ⟨rfl, rfl, rfl⟩) (y | ⟨e, rfl, rfl⟩)
   · exact H.fn _ _ _ _ _ x y
   · have := H.fresh _ _ _ x; omega
   · have := H.fresh _ _ _ y; omega
   · exact ⟨rfl, rfl⟩
 · rintro j g1 s1 (x | ⟨rfl, -, -⟩)
   · have := H.fresh _ _ _ x; omega
   · omega
 · intro j jt e2
   by_cases hj : n = j
   · subst hj
     have : jt = .lview cells := by simpa [lkH] using e2.symm
     subst this
     exact ⟨g, s, .inr ⟨rfl, rfl, rfl⟩, ok⟩
   · unfold lkH at e2
     rw [beq_no hj] at e2
     obtain ⟨g', s', x, ok'⟩ := H.dom j jt e2
     exact ⟨g', s', .inl x, ok'.mono (BM.le_put m n g s)⟩
 · intro j jt k kt g1 s1 g2 s2 b e1 hm1 e2 hjk x y hb1 hb2
   have j0 : j ≠ n := fun ej => by
    subst ej
    have : jt = .lview cells := by simpa [lkH] using e1.symm
    subst this; cases hm1
   unfold lkH at e1
   rw [beq_no (fun z => j0 z.symm)] at e1
   have x' : m j g1 s1 := by
    rcases x with x | ⟨ej, _⟩
    · exact x
    · exact absurd ej j0
   by_cases hk : n = k
   · subst hk
     have : kt = .lview cells := by simpa [lkH] using e2.symm
     subst this
     have hgs : g2 = g ∧ s2 = s := by
      rcases y with y | ⟨_, h1, h2⟩
      · have := H.fresh _ _ _ y; omega
      · exact ⟨h1, h2⟩
     obtain ⟨rfl, rfl⟩ := hgs
     obtain ⟨hs2, rfl⟩ := (Itm.blk_one (it := .lview cells) rfl).1 hb2
     exact H.sep j jt i _ g1 s1 gi si b e1 hm1 e (fun z => by subst z; rw [e] at e1; cases e1; cases hm1) x' hi hb1 (hgN hs2)
   · unfold lkH at e2
     rw [beq_no hk] at e2
     have y' : m k g2 s2 := by
      rcases y with y | ⟨ek, _⟩
      · exact y
      · exact absurd ek.symm hk
     exact H.sep j jt k kt g1 s1 g2 s2 b e1 hm1 e2 hjk x' y' hb1 hb2
end
theorem sem_start {N np n0 : Nat} {ι : Type} {I : ι → TM} {J : ι → HP} {R : ι → Prop} {t : TM} {h : HP} {n : Nat} (i0 : ι) (h0 : R i0) (L : IdMap) (s : Sub np (I i0) (J i0) n0 t h L) :
 ∀ F B w0 m w a, HRel F B w0 m h n w → TRel m N t a → ∃ i0 m', R i0 ∧ BM.leN np m m' ∧ HRel F B w0 m' (J i0) n0 w ∧ TRel m' N (I i0) a := fun F B w0 m w a H ht => ⟨i0, _, h0, via_leN m np L, H.sub s.ok s.oki s.hp, ht.sub s.tm⟩
theorem sem_round {N np n0 : Nat} {ι : Type} {I : ι → TM} {J : ι → HP} {μ : ι → Nat} {R : ι → Prop} {i : ι} {t : TM} {h : HP} {n : Nat} (T' : TM) (H' : HP) (L : IdMap) (s : Sub np T' H' n0 t h L)
 (k : ∀ F B w0 m w, HRel F B w0 m H' n0 w → ∃ i', R i' ∧ μ i' < μ i ∧ HRel F B w0 m (J i') n0 w ∧ I i' = T') : AgainS N np n0 I J μ R i t h n :=
 .go fun F B w0 m w a H ht => let ⟨i', h1, h2, h3, h4⟩ := k F B w0 _ w (H.sub s.ok s.oki s.hp); ⟨i', _, h1, h2, via_leN m np L, h3, h4 ▸ ht.sub s.tm⟩
end Go.Proofs.YtcojbjakopkfbaaGreat
