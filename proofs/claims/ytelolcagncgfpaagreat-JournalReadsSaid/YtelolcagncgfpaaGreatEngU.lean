/- A generator of conditions for a walk, part 16: a loop whose ways out are joined: what stands behind it is walked once. No program in sight. -/
import Derived.Test.YtelolcagncgfpaaGreatEngL
namespace Go.Proofs.YtelolcagncgfpaaGreat
open Go.RowKit
set_option linter.unusedSimpArgs false
set_option linter.unusedVariables false
inductive Gone {α : Type} (np n1 : Nat) (I : α → TM) (J : α → HP) (E : α → Prop) (t : TM) (h : HP) : Prop
 | go (x : α) (hE : E x) (L : IdMap) (s : Sub np (I x) (J x) n1 t h L) : Gone np n1 I J E t h
 | no (hx : False) : Gone np n1 I J E t h
theorem loop_join {P : Program} {T : Tab} (hT : TabOk P T) (hmix : P.follows .mixedOrders = true) {N np : Nat} (pl : Plans) {c : Code} {K : KT} {t : TM} {h : HP} {n : Nat}
 {ι α : Type} (n0 : Nat) (I : ι → TM) (J : ι → HP) (μ : ι → Nat) (R : ι → Prop) (i0 : ι) (id n1 : Nat) (IE : α → TM) (JE : α → HP) (E : α → Prop) (h0 : R i0) (hs : ∃ L, Sub np (I i0) (J i0) n0 t h L)
 (round : ∀ i, R i → vc P T N np pl c (fun e t' h' n' => match e with | .normal => Again np n0 I J μ R i t' h' | .exit j => (match Nat.beq j id with | true => Gone np n1 IE JE E t' h' | false => K (.exit j) t' h' n') | e => K e t' h' n') (I i) (J i) n0)
 (after : ∀ x, E x → K (.exit id) (IE x) (JE x) n1) : LoopOb P N np c K t h n := by
 refine ⟨fun ds F B w0 m w a H ht => ?_⟩
 obtain ⟨L, s⟩ := hs
 refine wp_loop_ghost (fun i a w => R i ∧ ∃ m', BM.leN np m m' ∧ HRel F B w0 m' (J i) n0 w ∧ TD ds m' N (I i) a) μ (fun i a w hI => ?_) (i0 := i0) ⟨h0, _, via_leN m np L, H.sub s.ok s.oki s.hp, ht.sub s.tm⟩
 obtain ⟨hR, m1, hm1, H1, ht1⟩ := hI
 refine wp_mono (vc_ok hT hmix (round i hR) ds F B w0 m1 w a H1 ht1) fun e a' w' hq => ?_
 obtain ⟨hn, m', t', h', n', hm2, H', ht', hK⟩ := hq
 have hm := BM.leN_trans hm1 hm2
 cases e with
 | normal =>
  cases hK with
  | no h => exact h.elim
  | go i' hR' hlt L' s' =>
  exact ⟨i', ⟨hR', _, BM.leN_trans hm (via_leN m' np L'), H'.sub s'.ok s'.oki s'.hp, ht'.sub s'.tm⟩, hlt⟩
 | exit j =>
  dsimp only at hK
  split at hK
  · rename_i hj
    obtain rfl := Nat.eq_of_beq_eq_true hj
    cases hK with
    | no h => exact h.elim
    | go x hE L' s' => exact ⟨rfl, _, _, _, _, BM.leN_trans hm (via_leN m' np L'), H'.sub s'.ok s'.oki s'.hp, ht'.sub s'.tm, after x hE⟩
  · exact ⟨rfl, m', t', h', n', hm, H', ht', hK⟩
 | goto l => exact ⟨rfl, m', t', h', n', hm, H', ht', hK⟩
 | ret => exact ⟨rfl, m', t', h', n', hm, H', ht', hK⟩
 | panic ch => cases hn
 | outgrown => exact ⟨rfl, m', t', h', n', hm, H', ht', hK⟩
end Go.Proofs.YtelolcagncgfpaaGreat
