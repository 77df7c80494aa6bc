/- A database laid, and changed under its journal: the walks. -/
import Derived.Test.YtelolcagncgfpaaGreatJrnFind
namespace Go.Proofs.YtelolcagncgfpaaGreat
open Go.RowKit
set_option linter.unusedSimpArgs false
set_option linter.unusedVariables false
theorem and4095 {n : Nat} (h : n < 32) : bits .and .i64 (n : Int) 4095 = (n : Int) := by
 have : ∀ m : Fin 32, bits .and .i64 ((m.val : Nat) : Int) 4095 = ((m.val : Nat) : Int) := by decide
 exact this ⟨n, h⟩
abbrev chv (y : ChT) : List Value := [iv y.1, .int .u8 y.2.1, .bool y.2.2]
theorem ch_num {L : List ChT} {i o : Nat} {y : ChT} {K : Value → Prop} (hy : L[i]? = some y) (ho : o = i * 3) (hk : K (iv y.1)) : onS (L.flatMap chv)[o]? K := by
 rw [ho, show i * 3 = i * 3 + 0 from rfl, flat_getElem (f := chv) (n := 3) (fun _ => rfl) L i 0 y hy (by decide)]; exact hk
theorem ch_fill {L : List ChT} {i o : Nat} {y : ChT} {K : Value → Prop} (hy : L[i]? = some y) (ho : o = i * 3 + 1) (hk : K (.int .u8 y.2.1)) : onS (L.flatMap chv)[o]? K := by
 rw [ho, flat_getElem (f := chv) (n := 3) (fun _ => rfl) L i 1 y hy (by decide)]; exact hk
theorem ch_seal {L : List ChT} {i o : Nat} {y : ChT} {K : Value → Prop} (hy : L[i]? = some y) (ho : o = i * 3 + 2) (hk : K (.bool y.2.2)) : onS (L.flatMap chv)[o]? K := by
 rw [ho, flat_getElem (f := chv) (n := 3) (fun _ => rfl) L i 2 y hy (by decide)]; exact hk
noncomputable def laidM (p : Nat) : List Cv := (List.range p).map fun i => some (secM (i : Nat) (i : Nat))
theorem laidM_len (p : Nat) : (laidM p).length = p := by unfold laidM; rw [List.length_map, List.length_range]
theorem laidM_succ (p : Nat) : laidM (p + 1) = laidM p ++ [some (secM (p : Nat) (p : Nat))] := by unfold laidM; rw [List.range_succ, List.map_append]; rfl
noncomputable def laidF (p : Nat) : Option Fl := if p = 0 then none else some ⟨laidM p, (laidM p).map some, List.replicate p false, true⟩
structure LaydR (p : Nat) (D : DM) : Prop where
 up : UpD D 30
 room : D.k.room = 16384
 fs : D.fs = fs2 (laidF p) none
structure LayR (i : Nat) (D : DM) : Prop where
 up : UpD D ((i : Nat) : Int)
 room : D.k.room = 16384
 ex : ∃ m, D.fs = fs2 m none ∧ (i = 0 → m = none) ∧ (0 < i → ∃ x, m = some x ∧ x.now = laidM i)
theorem LayR.start {D : DM} (h : D = newD 16384) : LayR 0 D := by
 subst h
 exact ⟨⟨new_okN 16384, rfl, rfl⟩, rfl, none, rfl, fun _ => rfl, fun h => absurd h (Nat.lt_irrefl 0)⟩
theorem LayR.step {i : Nat} {D D' : DM} (h : LayR i D) (hi : i < 9) {e : Int} (hw : (e, D') = writeD D mainN (i : Nat) (secM (i : Nat) (i : Nat))) : LayR (i + 1) D' := by
 obtain ⟨m, h1, h2, h3⟩ := h.ex
 have hok := write_okN h.up.ok mainN (i : Nat) (secM (i : Nat) (i : Nat))
 have hr := h.room
 have hlen : lenO m = i := by
  rcases Nat.eq_zero_or_pos i with h0 | h0
  · rw [h2 h0, h0]; rfl
  · obtain ⟨x, rfl, hx⟩ := h3 h0
    show x.now.length = i
    rw [hx, laidM_len]
 obtain ⟨⟨_, down, at0⟩, _, _⟩ := h
 obtain ⟨k, fs⟩ := D
 dsimp only at h1 hr down at0
 subst h1
 have hs : (secM (i : Nat) (i : Nat)).size = 256 := secM_size (by omega) _
 have := write2_main down at0 m none (i := i) hs (by omega) (by rw [hlen]; show ((i + 0 : Nat) : Int) < k.room; omega)
 rw [this] at hw hok
 have hD : D' = _ := congrArg Prod.snd hw
 dsimp only at hD
 subst hD
 refine ⟨⟨hok.mono (by omega), down, at0⟩, hr, some (setO m i (secM (i : Nat) (i : Nat))), rfl, fun h => absurd h (Nat.succ_ne_zero i), fun _ => ⟨_, rfl, ?_⟩⟩
 rcases Nat.eq_zero_or_pos i with h0 | h0
 · rw [h2 h0]; subst h0; rfl
 · obtain ⟨x, rfl, hx⟩ := h3 h0
   show (writeF x i _).now = _
   unfold writeF
   rw [if_pos (by rw [hx, laidM_len])]
   dsimp only
   rw [hx, laidM_succ]
theorem LayR.none {D : DM} (h : LayR 0 D) : LaydR 0 D := by
 obtain ⟨m, h1, h2, _⟩ := h.ex
 exact ⟨h.up.mono (by decide), h.room, by rw [h1, h2 rfl]; rfl⟩
theorem LayR.sync {p : Nat} {D D' : DM} (h : LayR p D) (hp : 0 < p) (h9 : p < 9) {e : Int} (hw : (e, D') = syncD D mainN) : LaydR p D' := by
 obtain ⟨m, h1, h2, h3⟩ := h.ex
 have hok := sync_okN h.up.ok mainN
 have hr := h.room
 obtain ⟨⟨_, down, at0⟩, _, _⟩ := h
 obtain ⟨k, fs⟩ := D
 dsimp only at h1 hr down at0
 subst h1
 obtain ⟨x, rfl, hx⟩ := h3 hp
 rw [sync2_main down at0] at hw hok
 have hD : D' = _ := congrArg Prod.snd hw
 dsimp only at hD
 subst hD
 refine ⟨⟨hok.mono (by omega), down, at0⟩, hr, ?_⟩
 unfold laidF syncF
 rw [if_neg (by omega), hx, laidM_len]
section
variable {p : Int} {y : ChT} {L : List ChT} {J J1 J4 : JM} {D D1 D4 D5 D6 : DM} {b : Bool} {n e1 e4 ew et : Int}
open Classical in
theorem noteC_yes (h : n < p ∧ n ∉ J.noted) : noteC J D p n = noteJ J D n (pgS 232 n) := by unfold noteC; rw [if_pos h]
theorem noteC_no (h : ¬ (n < p ∧ n ∉ J.noted)) : (0, J, D) = noteC J D p n := by unfold noteC; rw [if_neg h]
theorem sealC_yes (h : (n < p ∧ n ∉ J.noted) ∨ b = false) : sealC J J1 D p n b = sealJ J1 D := by unfold sealC; rw [if_pos h]
theorem sealC_no (h : ¬ (n < p ∧ n ∉ J.noted)) (hb : b = true) : (0, J1, D) = sealC J J1 D p n b := by
 unfold sealC
 rw [if_neg]
 rintro (h' | h')
 · exact h h'
 · rw [hb] at h'; cases h'
variable (hn : n = pickN y p) (ha : (e1, J1, D1) = noteC J D p n)
include hn ha
theorem chg1 (h : ¬ e1 = 0) : changedL p (y :: L) J D b = (e1, D1) := by
 unfold changedL; dsimp only; rw [← hn, ← ha]; dsimp only; rw [if_pos h]
variable (h1 : e1 = 0) (hs : (e4, J4, D4) = sealC J J1 D1 p n b)
include h1 hs
theorem chg2 (h : ¬ e4 = 0) : changedL p (y :: L) J D b = (e4, D4) := by
 unfold changedL; dsimp only; rw [← hn, ← ha]; dsimp only; rw [if_neg (fun hh => hh h1), ← hs]; dsimp only; rw [if_pos h]
variable (h4 : e4 = 0)
include h4
theorem chg3 (h : max (sizeD D4 mainN) 0 < n) : changedL p (y :: L) J D b = changedL p L J4 D4 true := by
 conv => lhs; unfold changedL
 dsimp only; rw [← hn, ← ha]; dsimp only; rw [if_neg (fun hh => hh h1), ← hs]; dsimp only; rw [if_neg (fun hh => hh h4), if_pos h]
variable (hm : ¬ max (sizeD D4 mainN) 0 < n) (hw : (ew, D5) = writeD D4 mainN n (secM n y.2.1))
include hm hw
theorem chg4 (h : ¬ ew = 0) : changedL p (y :: L) J D b = (ew, D5) := by
 unfold changedL; dsimp only; rw [← hn, ← ha]; dsimp only; rw [if_neg (fun hh => hh h1), ← hs]; dsimp only; rw [if_neg (fun hh => hh h4), if_neg hm, ← hw]; dsimp only; rw [if_pos h]
variable (h5 : ew = 0)
include h5
theorem chg7 (h : y.2.2 = false) : changedL p (y :: L) J D b = changedL p L J4 D5 true := by
 conv => lhs; unfold changedL
 dsimp only; rw [← hn, ← ha]; dsimp only; rw [if_neg (fun hh => hh h1), ← hs]; dsimp only; rw [if_neg (fun hh => hh h4), if_neg hm, ← hw]; dsimp only; rw [if_neg (fun hh => hh h5), if_neg (by rw [h]; decide)]
variable (hy : y.2.2 = true) (ht : (et, D6) = syncD D5 mainN)
include hy ht
theorem chg5 (h : ¬ et = 0) : changedL p (y :: L) J D b = (et, D6) := by
 unfold changedL; dsimp only; rw [← hn, ← ha]; dsimp only; rw [if_neg (fun hh => hh h1), ← hs]; dsimp only; rw [if_neg (fun hh => hh h4), if_neg hm, ← hw]; dsimp only; rw [if_neg (fun hh => hh h5), if_pos hy, ← ht]; dsimp only; rw [if_pos h]
theorem chg6 (h : et = 0) : changedL p (y :: L) J D b = changedL p L J4 D6 true := by
 conv => lhs; unfold changedL
 dsimp only; rw [← hn, ← ha]; dsimp only; rw [if_neg (fun hh => hh h1), ← hs]; dsimp only; rw [if_neg (fun hh => hh h4), if_neg hm, ← hw]; dsimp only; rw [if_neg (fun hh => hh h5), if_pos hy, ← ht]; dsimp only; rw [if_neg (fun hh => hh h)]
end
theorem pick_nat (y : ChT) (p : Nat) : ∃ n : Nat, ((n : Nat) : Int) = (IntKind.u64.wrap y.1).tmod ((p : Nat) + 3) ∧ n < p + 3 ∧ ((n : Nat) : Int) = pickN y (p : Nat) := by
 have h0 : 0 ≤ IntKind.u64.wrap y.1 := by rw [IntKind.wrap_u64]; omega
 obtain ⟨a, ha⟩ := Int.eq_ofNat_of_zero_le h0
 refine ⟨a % (p + 3), ?_, Nat.mod_lt _ (by omega), ?_⟩
 · rw [ha, Int.tmod_eq_emod_of_nonneg (by omega)]; norm_cast
 · unfold pickN; rw [ha, Int.tmod_eq_emod_of_nonneg (by omega)]; norm_cast
theorem JB.jok {J : JM} {p : Nat} {c : Nat} (h : JB J (p : Nat) 99 c) (hp : p ≤ 4096) (hc : c ≤ 1000) : JOk J :=
 ⟨by rw [h.pages]; omega, by rw [h.salt]; exact ⟨by decide, by decide⟩, by have := h.loose; omega, by have := h.feet; omega⟩
structure JC where
 i : Nat
 J : JM
 D : DM
 S : Nat → Prop
 b : Bool
structure JCR (p : Nat) (L : List ChT) (D0 : DM) (N : Int) (k : JC) : Prop where
 le : k.i ≤ 20 ∧ k.i ≤ L.length
 run : changedL (p : Nat) ((L.take 20).drop k.i) k.J k.D k.b = changedD (p : Nat) L D0
 ok : k.D.OkN (N + 6 * (k.i : Nat))
 jb : JB k.J (p : Nat) 99 (2 * k.i)
theorem JCR.next {p : Nat} {L : List ChT} {D0 : DM} {N : Int} {k : JC} (h : JCR p L D0 N k) {y : ChT} (hy : L[k.i]? = some y) (hi : k.i < 20) : changedL (p : Nat) (y :: (L.take 20).drop (k.i + 1)) k.J k.D k.b = changedD (p : Nat) L D0 := by
 have e : (L.take 20)[k.i]? = some y := by rw [List.getElem?_take, if_pos hi]; exact hy
 obtain ⟨hl, he⟩ := List.getElem?_eq_some_iff.1 e
 have := h.run
 rw [List.drop_eq_getElem_cons hl, he] at this
 exact this
theorem JCR.done {p : Nat} {L : List ChT} {D0 : DM} {N : Int} {k : JC} (h : JCR p L D0 N k) (hi : 20 ≤ k.i ∨ L.length ≤ k.i) : (0, k.D) = changedD (p : Nat) L D0 := by
 have := h.run
 rw [List.drop_of_length_le (by rw [List.length_take]; omega)] at this
 exact this
attribute [local irreducible] numOf fixedL bytesOf strOf strEq strLt sfrom closeS closeE layD footS writeD sizeD syncD dropD readD bytesD noteJ sealJ gonJ findJ foundJ pgS newD fullS eqPg secM changedL changedD noteC sealC pickN
structure WI where
 i : Nat
 D : DM
 S : Nat → Prop
end Go.Proofs.YtelolcagncgfpaaGreat
