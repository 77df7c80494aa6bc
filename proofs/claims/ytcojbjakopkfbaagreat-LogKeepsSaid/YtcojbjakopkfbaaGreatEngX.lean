/- A generator of conditions for a walk, part 20: slices inside what came in: told as the world's own; what is known of them; taken out at a call. No program in sight. -/
import Derived.Test.YtcojbjakopkfbaaGreatEngW
namespace Go.Proofs.YtcojbjakopkfbaaGreat
open Go.RowKit
set_option linter.unusedSimpArgs false
set_option linter.unusedVariables false
/-- A slice that came in, in blocks below N. -/
def SlcIn (N : Nat) (w : World) (v : Value) (len cap : Nat) (cells : List Value) : Prop :=
  (∃ a, v = .slice a 0 0 ∧ len = 0 ∧ cap = 0 ∧ cells = []) ∨
  ∃ a : Addr, v = .slice (some a) len cap ∧ a.spot = none ∧ a.block < N ∧ ∀ j u, cells[j]? = some u → w.cell? (a.add j) = some u
theorem SlcIn.at {N : Nat} {w : World} {v : Value} {len cap : Nat} {cells : List Value} (h : SlcIn N w v len cap cells) (hN : N ≤ w.heap.size) : SlcAt w v len cap cells :=
  h.imp id fun ⟨a, h1, h2, h3, h4⟩ => ⟨a, h1, h2, Nat.lt_of_lt_of_le h3 hN, h4⟩
theorem SlcIn.slice {N : Nat} {w : World} {v : Value} {len cap : Nat} {cells : List Value} (h : SlcIn N w v len cap cells) : ∃ p, v = .slice p len cap := by
  rcases h with ⟨a, rfl, rfl, rfl, _⟩ | ⟨a, rfl, _⟩ <;> exact ⟨_, rfl⟩
theorem SlcIn.same {N : Nat} {w w' : World} {v : Value} {len cap : Nat} {cells : List Value} (hb : ∀ b, b < N → w'.heap[b]? = w.heap[b]?) (h : SlcIn N w v len cap cells) : SlcIn N w' v len cap cells :=
  h.imp id fun ⟨a, h1, h2, h3, h4⟩ => ⟨a, h1, h2, h3, fun j u hj => by
    obtain ⟨b, o, s⟩ := a
    dsimp only at h2 h3
    subst h2
    have h5 := h4 j u hj
    rw [add_lit'] at h5 ⊢
    rw [World.cell?_of_block (w := w) (a := ⟨b, o + j, none⟩) (hb _ h3)]
    exact h5⟩
section
variable {F : Nat → Prop} {B : Nat} {w0 : World} {m : BM} {h : HP} {n : Nat} {w : World}
/-- One that is read only, put to what is read only. -/
theorem HRel.put0 (H : HRel F B w0 m h n w) (hv : ∀ i it, lkH h i = some it → it.mine = false) {it : Itm} (hm : it.mine = false) {g s : Nat} (ok : ItmOk F B (m.put n g s) w g s it) :
    HRel F B w0 (m.put n g s) ((n, it) :: h) (n + 1) w ∧ (∀ i jt, lkH ((n, it) :: h) i = some jt → jt.mine = false) := by
  have hmine : ∀ i jt, lkH ((n, it) :: h) i = some jt → jt.mine = false := fun i jt e => by
    by_cases hi : n = i
    · subst hi
      have : jt = it := by simpa [lkH] using e.symm
      subst this; exact hm
    · unfold lkH at e
      rw [beq_no hi] at e
      exact hv i jt e
  refine ⟨⟨H.keep, H.base, ?_, ?_, ?_, ?_⟩, hmine⟩
  · rintro i g1 s1 g2 s2 (x | ⟨rfl, rfl, rfl⟩) (y | ⟨e, rfl, rfl⟩)
    · exact H.fn _ _ _ _ _ x y
    · have := H.fresh _ _ _ x; omega
    · have := H.fresh _ _ _ y; omega
    · exact ⟨rfl, rfl⟩
  · rintro i g1 s1 (x | ⟨rfl, -, -⟩)
    · have := H.fresh _ _ _ x; omega
    · omega
  · intro i jt e
    by_cases hi : n = i
    · subst hi
      have : jt = it := by simpa [lkH] using e.symm
      subst this
      exact ⟨g, s, .inr ⟨rfl, rfl, rfl⟩, ok⟩
    · unfold lkH at e
      rw [beq_no hi] at e
      obtain ⟨g', s', x, ok'⟩ := H.dom i jt e
      exact ⟨g', s', .inl x, ok'.mono (BM.le_put m n g s)⟩
  · intro i it1 j jt g1 s1 g2 s2 b e hm1
    rw [hmine i it1 e] at hm1; cases hm1
/-- What is known of blocks below N. -/
theorem HRel.fact (H : HRel F B w0 m h n w) (hv : ∀ i it, lkH h i = some it → it.mine = false) (S : Nat → Prop) (Φ : World → Prop) (h1 : ∀ b, S b → b < w.heap.size) (st : Stab S Φ) (hΦ : Φ w) :
    ∃ m', m.le m' ∧ HRel F B w0 m' ((n, .abs false S (fun _ => Φ)) :: h) (n + 1) w ∧ (∀ i it, lkH ((n, .abs false S (fun _ => Φ)) :: h) i = some it → it.mine = false) := by
  obtain ⟨a, b⟩ := H.put0 hv (it := .abs false S (fun _ => Φ)) rfl (g := 0) (s := nilS) ⟨.inl ⟨rfl, rfl⟩, h1, (fun e => by cases e), st, hΦ⟩
  exact ⟨_, BM.le_put _ _ _ _, a, b⟩
end
theorem sem_start {N np n0 : Nat} {ι : Type} {I : ι → TM} {J : ι → HP} {R : ι → Prop} {t : TM} {h : HP} {n : Nat} (i0 : ι) (h0 : R i0) (L : IdMap) (s : Sub np (I i0) (J i0) n0 t h L) :
    ∀ F B w0 m w a, HRel F B w0 m h n w → TRel m N t a → ∃ i0 m', R i0 ∧ BM.leN np m m' ∧ HRel F B w0 m' (J i0) n0 w ∧ TRel m' N (I i0) a := fun F B w0 m w a H ht => ⟨i0, _, h0, via_leN m np L, H.sub s.ok s.oki s.hp, ht.sub s.tm⟩
theorem sem_round {N np n0 : Nat} {ι : Type} {I : ι → TM} {J : ι → HP} {μ : ι → Nat} {R : ι → Prop} {i : ι} {t : TM} {h : HP} {n : Nat} (T' : TM) (H' : HP) (L : IdMap) (s : Sub np T' H' n0 t h L)
    (k : ∀ F B w0 m w, HRel F B w0 m H' n0 w → ∃ i', R i' ∧ μ i' < μ i ∧ HRel F B w0 m (J i') n0 w ∧ I i' = T') : AgainS N np n0 I J μ R i t h n :=
  .go fun F B w0 m w a H ht => let ⟨i', h1, h2, h3, h4⟩ := k F B w0 _ w (H.sub s.ok s.oki s.hp); ⟨i', _, h1, h2, via_leN m np L, h3, h4 ▸ ht.sub s.tm⟩
end Go.Proofs.YtcojbjakopkfbaaGreat
