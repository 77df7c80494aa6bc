/- A generator of conditions for a walk, part 14: arguments that lie in memory, as they come in. No program in sight. -/
import Derived.Test.YtelolcagncgfpaaGreatEngM
import Derived.Deep.Slices
import Derived.DataReads
namespace Go.Proofs.YtelolcagncgfpaaGreat
open Go.RowKit
set_option linter.unusedSimpArgs false
set_option linter.unusedVariables false
def SlcAt (w : World) (v : Value) (len cap : Nat) (cells : List Value) : Prop :=
 (∃ a, v = .slice a 0 0 ∧ len = 0 ∧ cap = 0 ∧ cells = []) ∨
 ∃ a : Addr, v = .slice (some a) len cap ∧ a.spot = none ∧ a.block < w.heap.size ∧ ∀ j u, cells[j]? = some u → w.cell? (a.add j) = some u
theorem cell_lives {w : World} {a : Addr} {v : Value} (h : w.cell? a = some v) : a.spot = none ∧ a.block < w.heap.size := by
 unfold World.cell? at h
 cases e : w.heap[a.block]? with
 | none => rw [e] at h; cases h
 | some o =>
  refine ⟨?_, (Array.getElem?_eq_some_iff.1 e).1⟩
  rw [e] at h
  cases o <;> first | (dsimp only at h; split at h <;> first | (cases h; done) | (rename_i hs; cases hsp : a.spot <;> simp_all)) | (cases h; done)
section
variable {H : Type} {enc : TypeId × Value → H} {P : Program} {w : World} {base : Nat} {sp : Nat → Bool} {held : Bool}
theorem flat_getElem {T : Type} {f : T → List Value} {n : Nat} (hn : ∀ y, (f y).length = n) : ∀ (L : List T) (i j : Nat) (y : T), L[i]? = some y → j < n → (L.flatMap f)[i * n + j]? = (f y)[j]?
 | [], _, _, _, h, _ => by simp at h
 | x :: L, 0, j, y, h, hj => by
  simp at h; subst h
  rw [List.flatMap_cons, List.getElem?_append_left (by rw [hn]; omega)]
  simp
 | x :: L, i + 1, j, y, h, hj => by
  rw [List.flatMap_cons, List.getElem?_append_right (by rw [hn, Nat.add_mul]; omega), hn, show (i + 1) * n + j - n = i * n + j by rw [Nat.add_mul]; omega]
  exact flat_getElem hn L i j y (by simpa using h) hj
theorem flat_length {T : Type} {f : T → List Value} {n : Nat} (hn : ∀ y, (f y).length = n) : ∀ L : List T, (L.flatMap f).length = L.length * n
 | [] => by simp
 | x :: L => by rw [List.flatMap_cons, List.length_append, hn, flat_length hn L, List.length_cons, Nat.add_mul]; omega
theorem choose_list {T : Type} {p : Nat → T → Prop} : ∀ (k : Nat), (∀ i, i < k → ∃ y, p i y) → ∃ L : List T, L.length = k ∧ ∀ i y, L[i]? = some y → p i y
 | 0, _ => ⟨[], rfl, fun i y h => by simp at h⟩
 | k + 1, h => by
  obtain ⟨L, hl, hL⟩ := choose_list k fun i hi => h i (by omega)
  obtain ⟨y, hy⟩ := h k (by omega)
  refine ⟨L ++ [y], by simp [hl], fun i z hz => ?_⟩
  rcases Nat.lt_or_ge i L.length with hi | hi
  · rw [List.getElem?_append_left hi] at hz; exact hL i z hz
  · rw [List.getElem?_append_right hi] at hz
    have : i - L.length = 0 := by
     rcases Nat.eq_zero_or_pos (i - L.length) with h0 | h0
     · exact h0
     · rw [List.getElem?_eq_none (by simp; omega)] at hz; cases hz
    rw [this] at hz
    simp at hz
    subst hz
    rwa [show i = k by omega]
theorem open_list {T : Type} (f : T → List Value) (ok : T → Prop) (n : Nat) (hn : ∀ y, (f y).length = n) (hpos : 1 ≤ n) {t e : TypeId} {fuel : Nat} {cs : List Value} {x : DataW H × List MemPlace} (ht : P.underlying t = some (.slice e)) (hc : P.cellsOf e = n)
 (hsp : ∀ b, sp b = true) (hdec : ∀ m cs' x, DataW.trod enc P w base sp held m e cs' = some x → ∃ y, cs' = f y ∧ ok y) (h : DataW.trod enc P w base sp held fuel t cs = some x) :
 ∃ (v : Value) (cap : Nat) (L : List T), cs = [v] ∧ SlcAt w v L.length cap (L.flatMap f) ∧ L.length ≤ cap ∧ cap ≤ maxLen ∧ (∀ y ∈ L, ok y) ∧ (∃ es rest, (x.1 = .slice es rest ∧ es.length + rest.length = cap) ∨ (x.1 = .nil ∧ cap = 0)) := by
 rcases Go.Deep.open_slice ht h with ⟨rfl, rfl⟩ | ⟨a, len, cap, m, k, D, Pl, rfl, hb, hl, hm, hmm, rfl, hx⟩
 · exact ⟨_, 0, [], rfl, .inl ⟨none, rfl, rfl, rfl, rfl⟩, Nat.le_refl _, Nat.zero_le _, (fun y hy => by cases hy), [], [], .inr ⟨rfl, rfl⟩⟩
 · rw [hsp] at hmm
   obtain rfl : m = cap := hmm
   rw [hc] at hx
   obtain ⟨L, hlen, hL⟩ := choose_list (T := T) (p := fun i y => w.cells? base (a.add (i * n)) n = some (f y) ∧ ok y) len fun i hi => by
    obtain ⟨cs', h1, h2⟩ := hx i (by omega)
    obtain ⟨y, rfl, hy⟩ := hdec _ _ _ h2
    exact ⟨y, h1, hy⟩
   subst hlen
   refine ⟨_, m, L, rfl, ?_, hl, hm, fun y hy => ?_, _, _, .inl ⟨rfl, by simp; omega⟩⟩
   · rcases Nat.eq_zero_or_pos m with h0 | h0
     · subst h0
       have : L = [] := List.eq_nil_of_length_eq_zero (by omega)
       subst this
       exact .inl ⟨some a, rfl, rfl, rfl, rfl⟩
     · obtain ⟨cs0, c0, _⟩ := hx 0 h0
       obtain ⟨_, hl0, hc0⟩ := World.cells?_some c0
       have hlive := cell_lives ((hc0 0 (by omega)).trans (List.getElem?_eq_getElem (by omega)))
       refine .inr ⟨a, rfl, ?_, ?_, fun j u hj => ?_⟩
       · have := hlive.1; simpa [Addr.add] using this
       · have := hlive.2; simpa [Addr.add] using this
       · have hjl : j < L.length * n := by
          rcases Nat.lt_or_ge j (L.length * n) with h | h
          · exact h
          · rw [List.getElem?_eq_none (by rw [flat_length hn]; omega)] at hj; cases hj
         have hi : j / n < L.length := Nat.div_lt_of_lt_mul (by rw [Nat.mul_comm]; exact hjl)
         have hjm : j % n < n := Nat.mod_lt _ hpos
         have hdm : j / n * n + j % n = j := by rw [Nat.mul_comm]; exact Nat.div_add_mod j n
         have hLi := List.getElem?_eq_getElem hi
         obtain ⟨hcell, _⟩ := hL _ _ hLi
         obtain ⟨_, _, hcc⟩ := World.cells?_some hcell
         have h3 := hcc (j % n) hjm
         have h4 := flat_getElem hn L (j / n) (j % n) _ hLi hjm
         rw [hdm] at h4
         rw [← h4, hj] at h3
         have hs : a.spot = none := by have := hlive.1; simpa [Addr.add] using this
         obtain ⟨b, o, p⟩ := a
         dsimp only at hs
         subst hs
         rw [add_lit', add_lit', Nat.add_assoc, hdm] at h3
         rw [add_lit']
         exact h3
   · obtain ⟨i, hi⟩ := List.mem_iff_getElem?.1 hy
     exact (hL i y hi).2
end
theorem HRel.see {F : Nat → Prop} {B : Nat} {w0 : World} {m : BM} {h : HP} {n : Nat} {w : World} (H : HRel F B w0 m h n w) (hv : ∀ i it, lkH h i = some it → it.mine = false) {v : Value} {len cap : Nat} {cells : List Value} (S : SlcAt w v len cap cells) (hf : ∀ u ∈ cells, flat1 u = true) :
 ∃ m', m.le m' ∧ HRel F B w0 m' ((n, .lview cells) :: h) (n + 1) w ∧ (∀ i it, lkH ((n, .lview cells) :: h) i = some it → it.mine = false) ∧ V0 m' (mslice n len cap) v := by
 have key : ∀ g s, ItmOk F B (m.put n g s) w g s (.lview cells) → HRel F B w0 (m.put n g s) ((n, .lview cells) :: h) (n + 1) w ∧ (∀ i it, lkH ((n, .lview cells) :: h) i = some it → it.mine = false) := by
  intro g s ok
  have hmine : ∀ i it, lkH ((n, .lview cells) :: h) i = some it → it.mine = false := fun i it e => by
   by_cases hi : n = i
   · subst hi
     have : it = .lview cells := by simpa [lkH] using e.symm
     subst this; rfl
   · unfold lkH at e
     rw [beq_no hi] at e
     exact hv i it e
  refine ⟨⟨H.keep, H.base, ?_, ?_, ?_, ?_⟩, hmine⟩
  · rintro i g1 s1 g2 s2 (x | ⟨rfl, rfl, rfl⟩) (y | ⟨e, rfl, rfl⟩)
    · exact H.fn _ _ _ _ _ x y
    · have := H.fresh _ _ _ x; omega
    · have := H.fresh _ _ _ y; omega
    · exact ⟨rfl, rfl⟩
  · rintro i g1 s1 (x | ⟨rfl, -, -⟩)
    · have := H.fresh _ _ _ x; omega
    · omega
  · intro i it e
    by_cases hi : n = i
    · subst hi
      have : it = .lview cells := by simpa [lkH] using e.symm
      subst this
      exact ⟨g, s, .inr ⟨rfl, rfl, rfl⟩, ok⟩
    · unfold lkH at e
      rw [beq_no hi] at e
      obtain ⟨g', s', x, ok'⟩ := H.dom i it e
      exact ⟨g', s', .inl x, ok'.mono (BM.le_put m n g s)⟩
  · intro i it j jt g1 s1 g2 s2 b e hm
    rw [hmine i it e] at hm; cases hm
 have same : ∀ (m : BM), LR (V1 m) cells cells := fun m => LR.refl_of fun u hu => (V1.flat (hf u hu)).2 rfl
 rcases S with ⟨a, rfl, rfl, rfl, rfl⟩ | ⟨a, rfl, hsp, hlt, hc⟩
 · obtain ⟨h1, h2⟩ := key (wcode a) nilS (.inl ⟨rfl, rfl⟩)
   exact ⟨_, BM.le_put _ _ _ _, h1, h2, wcode a, nilS, .inr ⟨rfl, rfl, rfl⟩, .inl ⟨rfl, rfl, rfl, by rw [weird_code]⟩⟩
 · obtain ⟨s, hs, hoff⟩ := sh_all a.off
   obtain ⟨h1, h2⟩ := key a.block s (.inr ⟨hlt, hs, cells, same _, fun j u hj => by
    have := hc j u hj
    rw [hoff]
    obtain ⟨b, o, p⟩ := a
    dsimp only at hsp
    subst hsp
    rw [add_lit'] at this
    exact this⟩)
   refine ⟨_, BM.le_put _ _ _ _, h1, h2, a.block, s, .inr ⟨rfl, rfl, rfl⟩, .inr ⟨hs, ?_⟩⟩
   obtain ⟨b, o, p⟩ := a
   dsimp only at hsp hoff ⊢
   subst hsp
   rw [hoff, Nat.zero_add]
theorem law_of {P : Program} {f : FuncId} {args cs : List Value} {h : HP} {n : Nat} {m : BM} {w : World} {K : Value → HP → Nat → Prop} (C : CallOb P f args h n K) (H : HRel (fun _ => False) w.heap.size w m h n w) (ha : LR (VR m) args cs) (hk : ∀ v hh m, K v hh m → v = .bool true) :
 Calls P f cs.toArray w fun e w' => e = .returned (.bool true) ∧ Below w.heap.size w w' :=
 (C.run _ _ _ _ w cs H ha).mono fun e w' ⟨m', v, c, h', n', he, _, hv, H, hp⟩ => by
  have := hk _ _ _ hp
  subst this
  rw [he, hv.bool]
  exact ⟨rfl, H.keep.below⟩
theorem flatMap_one {α : Type} (f : α → Value) (l : List α) : l.flatMap (fun y => [f y]) = l.map f := by induction l <;> simp_all
end Go.Proofs.YtelolcagncgfpaaGreat
