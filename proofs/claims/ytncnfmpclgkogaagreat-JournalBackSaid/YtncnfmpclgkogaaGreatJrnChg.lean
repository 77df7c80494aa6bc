/- A database laid, and changed under its journal: the walks. -/
import Derived.Test.YtncnfmpclgkogaaGreatJrnFind
namespace Go.Proofs.YtncnfmpclgkogaaGreat
open Go.RowKit
set_option linter.unusedSimpArgs false
set_option linter.unusedVariables false
theorem and4095 {n : Nat} (h : n < 32) : bits .and .i64 (n : Int) 4095 = (n : Int) := by
  have : ∀ m : Fin 32, bits .and .i64 ((m.val : Nat) : Int) 4095 = ((m.val : Nat) : Int) := by decide
  exact this ⟨n, h⟩
abbrev chv (y : ChT) : List Value := [iv y.1, .int .u8 y.2.1, .bool y.2.2]
theorem ch_num {L : List ChT} {i o : Nat} {y : ChT} {K : Value → Prop} (hy : L[i]? = some y) (ho : o = i * 3) (hk : K (iv y.1)) : onS (L.flatMap chv)[o]? K := by
  rw [ho, show i * 3 = i * 3 + 0 from rfl, flat_getElem (f := chv) (n := 3) (fun _ => rfl) L i 0 y hy (by decide)]; exact hk
theorem ch_fill {L : List ChT} {i o : Nat} {y : ChT} {K : Value → Prop} (hy : L[i]? = some y) (ho : o = i * 3 + 1) (hk : K (.int .u8 y.2.1)) : onS (L.flatMap chv)[o]? K := by
  rw [ho, flat_getElem (f := chv) (n := 3) (fun _ => rfl) L i 1 y hy (by decide)]; exact hk
theorem ch_seal {L : List ChT} {i o : Nat} {y : ChT} {K : Value → Prop} (hy : L[i]? = some y) (ho : o = i * 3 + 2) (hk : K (.bool y.2.2)) : onS (L.flatMap chv)[o]? K := by
  rw [ho, flat_getElem (f := chv) (n := 3) (fun _ => rfl) L i 2 y hy (by decide)]; exact hk
/-! A database as it is laid. -/
noncomputable def laidM (p : Nat) : List Cv := (List.range p).map fun i => some (secM (i : Nat) (i : Nat))
theorem laidM_len (p : Nat) : (laidM p).length = p := by unfold laidM; rw [List.length_map, List.length_range]
theorem laidM_succ (p : Nat) : laidM (p + 1) = laidM p ++ [some (secM (p : Nat) (p : Nat))] := by unfold laidM; rw [List.range_succ, List.map_append]; rfl
noncomputable def laidF (p : Nat) : Option Fl := if p = 0 then none else some ⟨laidM p, (laidM p).map some, List.replicate p false, true⟩
structure LaydR (p : Nat) (D : DM) : Prop where
  up : UpD D 30
  room : D.k.room = 16384
  fs : D.fs = fs2 (laidF p) none
structure LayR (i : Nat) (D : DM) : Prop where
  up : UpD D ((i : Nat) : Int)
  room : D.k.room = 16384
  ex : ∃ m, D.fs = fs2 m none ∧ (i = 0 → m = none) ∧ (0 < i → ∃ x, m = some x ∧ x.now = laidM i)
theorem LayR.start {D : DM} (h : D = newD 16384) : LayR 0 D := by
  subst h
  exact ⟨⟨new_okN 16384, rfl, rfl⟩, rfl, none, rfl, fun _ => rfl, fun h => absurd h (Nat.lt_irrefl 0)⟩
theorem LayR.step {i : Nat} {D D' : DM} (h : LayR i D) (hi : i < 9) {e : Int} (hw : (e, D') = writeD D mainN (i : Nat) (secM (i : Nat) (i : Nat))) : LayR (i + 1) D' := by
  obtain ⟨m, h1, h2, h3⟩ := h.ex
  have hok := write_okN h.up.ok mainN (i : Nat) (secM (i : Nat) (i : Nat))
  have hr := h.room
  have hlen : lenO m = i := by
    rcases Nat.eq_zero_or_pos i with h0 | h0
    · rw [h2 h0, h0]; rfl
    · obtain ⟨x, rfl, hx⟩ := h3 h0
      show x.now.length = i
      rw [hx, laidM_len]
  obtain ⟨⟨_, down, at0⟩, _, _⟩ := h
  obtain ⟨k, fs⟩ := D
  dsimp only at h1 hr down at0
  subst h1
  have hs : (secM (i : Nat) (i : Nat)).size = 256 := secM_size (by omega) _
  have := write2_main down at0 m none (i := i) hs (by omega) (by rw [hlen]; show ((i + 0 : Nat) : Int) < k.room; omega)
  rw [this] at hw hok
  have hD : D' = _ := congrArg Prod.snd hw
  dsimp only at hD
  subst hD
  refine ⟨⟨hok.mono (by omega), down, at0⟩, hr, some (setO m i (secM (i : Nat) (i : Nat))), rfl, fun h => absurd h (Nat.succ_ne_zero i), fun _ => ⟨_, rfl, ?_⟩⟩
  rcases Nat.eq_zero_or_pos i with h0 | h0
  · rw [h2 h0]; subst h0; rfl
  · obtain ⟨x, rfl, hx⟩ := h3 h0
    show (writeF x i _).now = _
    unfold writeF
    rw [if_pos (by rw [hx, laidM_len])]
    dsimp only
    rw [hx, laidM_succ]
theorem LayR.none {D : DM} (h : LayR 0 D) : LaydR 0 D := by
  obtain ⟨m, h1, h2, _⟩ := h.ex
  exact ⟨h.up.mono (by decide), h.room, by rw [h1, h2 rfl]; rfl⟩
theorem LayR.sync {p : Nat} {D D' : DM} (h : LayR p D) (hp : 0 < p) (h9 : p < 9) {e : Int} (hw : (e, D') = syncD D mainN) : LaydR p D' := by
  obtain ⟨m, h1, h2, h3⟩ := h.ex
  have hok := sync_okN h.up.ok mainN
  have hr := h.room
  obtain ⟨⟨_, down, at0⟩, _, _⟩ := h
  obtain ⟨k, fs⟩ := D
  dsimp only at h1 hr down at0
  subst h1
  obtain ⟨x, rfl, hx⟩ := h3 hp
  rw [sync2_main down at0] at hw hok
  have hD : D' = _ := congrArg Prod.snd hw
  dsimp only at hD
  subst hD
  refine ⟨⟨hok.mono (by omega), down, at0⟩, hr, ?_⟩
  unfold laidF syncF
  rw [if_neg (by omega), hx, laidM_len]
/-! The changes, one by one. -/
section
variable {p : Int} {y : ChT} {L : List ChT} {J J1 J4 : JM} {D D1 D4 D5 D6 : DM} {b : Bool} {n e1 e4 ew et : Int}
open Classical in
theorem noteC_yes (h : n < p ∧ n ∉ J.noted) : noteC J D p n = noteJ J D n (pgS 232 n) := by unfold noteC; rw [if_pos h]
theorem noteC_no (h : ¬ (n < p ∧ n ∉ J.noted)) : (0, J, D) = noteC J D p n := by unfold noteC; rw [if_neg h]
theorem sealC_yes (h : (n < p ∧ n ∉ J.noted) ∨ b = false) : sealC J J1 D p n b = sealJ J1 D := by unfold sealC; rw [if_pos h]
theorem sealC_no (h : ¬ (n < p ∧ n ∉ J.noted)) (hb : b = true) : (0, J1, D) = sealC J J1 D p n b := by
  unfold sealC
  rw [if_neg]
  rintro (h' | h')
  · exact h h'
  · rw [hb] at h'; cases h'
variable (hn : n = pickN y p) (ha : (e1, J1, D1) = noteC J D p n)
include hn ha
theorem chg1 (h : ¬ e1 = 0) : changedL p (y :: L) J D b = (e1, D1) := by
  unfold changedL; dsimp only; rw [← hn, ← ha]; dsimp only; rw [if_pos h]
variable (h1 : e1 = 0) (hs : (e4, J4, D4) = sealC J J1 D1 p n b)
include h1 hs
theorem chg2 (h : ¬ e4 = 0) : changedL p (y :: L) J D b = (e4, D4) := by
  unfold changedL; dsimp only; rw [← hn, ← ha]; dsimp only; rw [if_neg (fun hh => hh h1), ← hs]; dsimp only; rw [if_pos h]
variable (h4 : e4 = 0)
include h4
theorem chg3 (h : max (sizeD D4 mainN) 0 < n) : changedL p (y :: L) J D b = changedL p L J4 D4 true := by
  conv => lhs; unfold changedL
  dsimp only; rw [← hn, ← ha]; dsimp only; rw [if_neg (fun hh => hh h1), ← hs]; dsimp only; rw [if_neg (fun hh => hh h4), if_pos h]
variable (hm : ¬ max (sizeD D4 mainN) 0 < n) (hw : (ew, D5) = writeD D4 mainN n (secM n y.2.1))
include hm hw
theorem chg4 (h : ¬ ew = 0) : changedL p (y :: L) J D b = (ew, D5) := by
  unfold changedL; dsimp only; rw [← hn, ← ha]; dsimp only; rw [if_neg (fun hh => hh h1), ← hs]; dsimp only; rw [if_neg (fun hh => hh h4), if_neg hm, ← hw]; dsimp only; rw [if_pos h]
variable (h5 : ew = 0)
include h5
theorem chg7 (h : y.2.2 = false) : changedL p (y :: L) J D b = changedL p L J4 D5 true := by
  conv => lhs; unfold changedL
  dsimp only; rw [← hn, ← ha]; dsimp only; rw [if_neg (fun hh => hh h1), ← hs]; dsimp only; rw [if_neg (fun hh => hh h4), if_neg hm, ← hw]; dsimp only; rw [if_neg (fun hh => hh h5), if_neg (by rw [h]; decide)]
variable (hy : y.2.2 = true) (ht : (et, D6) = syncD D5 mainN)
include hy ht
theorem chg5 (h : ¬ et = 0) : changedL p (y :: L) J D b = (et, D6) := by
  unfold changedL; dsimp only; rw [← hn, ← ha]; dsimp only; rw [if_neg (fun hh => hh h1), ← hs]; dsimp only; rw [if_neg (fun hh => hh h4), if_neg hm, ← hw]; dsimp only; rw [if_neg (fun hh => hh h5), if_pos hy, ← ht]; dsimp only; rw [if_pos h]
theorem chg6 (h : et = 0) : changedL p (y :: L) J D b = changedL p L J4 D6 true := by
  conv => lhs; unfold changedL
  dsimp only; rw [← hn, ← ha]; dsimp only; rw [if_neg (fun hh => hh h1), ← hs]; dsimp only; rw [if_neg (fun hh => hh h4), if_neg hm, ← hw]; dsimp only; rw [if_neg (fun hh => hh h5), if_pos hy, ← ht]; dsimp only; rw [if_neg (fun hh => hh h)]
end
theorem pick_nat (y : ChT) (p : Nat) : ∃ n : Nat, ((n : Nat) : Int) = (IntKind.u64.wrap y.1).tmod ((p : Nat) + 3) ∧ n < p + 3 ∧ ((n : Nat) : Int) = pickN y (p : Nat) := by
  have h0 : 0 ≤ IntKind.u64.wrap y.1 := by rw [IntKind.wrap_u64]; omega
  obtain ⟨a, ha⟩ := Int.eq_ofNat_of_zero_le h0
  refine ⟨a % (p + 3), ?_, Nat.mod_lt _ (by omega), ?_⟩
  · rw [ha, Int.tmod_eq_emod_of_nonneg (by omega)]; norm_cast
  · unfold pickN; rw [ha, Int.tmod_eq_emod_of_nonneg (by omega)]; norm_cast
theorem JB.jok {J : JM} {p : Nat} {c : Nat} (h : JB J (p : Nat) 99 c) (hp : p ≤ 4096) (hc : c ≤ 1000) : JOk J :=
  ⟨by rw [h.pages]; omega, by rw [h.salt]; exact ⟨by decide, by decide⟩, by have := h.loose; omega, by have := h.feet; omega⟩
structure JC where
  i : Nat
  J : JM
  D : DM
  S : Nat → Prop
  b : Bool
structure JCR (p : Nat) (L : List ChT) (D0 : DM) (N : Int) (k : JC) : Prop where
  le : k.i ≤ 20 ∧ k.i ≤ L.length
  run : changedL (p : Nat) ((L.take 20).drop k.i) k.J k.D k.b = changedD (p : Nat) L D0
  ok : k.D.OkN (N + 6 * (k.i : Nat))
  jb : JB k.J (p : Nat) 99 (2 * k.i)
theorem JCR.next {p : Nat} {L : List ChT} {D0 : DM} {N : Int} {k : JC} (h : JCR p L D0 N k) {y : ChT} (hy : L[k.i]? = some y) (hi : k.i < 20) : changedL (p : Nat) (y :: (L.take 20).drop (k.i + 1)) k.J k.D k.b = changedD (p : Nat) L D0 := by
  have e : (L.take 20)[k.i]? = some y := by rw [List.getElem?_take, if_pos hi]; exact hy
  obtain ⟨hl, he⟩ := List.getElem?_eq_some_iff.1 e
  have := h.run
  rw [List.drop_eq_getElem_cons hl, he] at this
  exact this
theorem JCR.done {p : Nat} {L : List ChT} {D0 : DM} {N : Int} {k : JC} (h : JCR p L D0 N k) (hi : 20 ≤ k.i ∨ L.length ≤ k.i) : (0, k.D) = changedD (p : Nat) L D0 := by
  have := h.run
  rw [List.drop_of_length_le (by rw [List.length_take]; omega)] at this
  exact this
attribute [local irreducible] numOf fixedL bytesOf strOf strEq strLt sfrom closeS closeE layD footS writeD sizeD syncD dropD readD bytesD noteJ sealJ gonJ findJ foundJ pgS newD fullS eqPg secM changedL changedD noteC sealC pickN
theorem cvJrnChg1 {p : Prop} (h : p := by have nw := True.intro; (repeat' (first | exact True.intro | (with_reducible exact rfl) | (with_reducible exact AbsLe.refl) | (guard_target =~ @Eq Nat _ _; first | exact rfl | omega) | (guard_target =~ List.map _ _ = []; exact rfl) | (first | (guard_target =~ @Eq (List Value) _ _; exact rfl) | exact covL_of rfl (flat_bind (f := chv) (fun _ => rfl) _) | exact covL_of rfl (flat_map (fun _ => rfl) _) | first | exact covL_still rfl hvs | exact covL_still rfl (still_map (fun _ => rfl) _) | exact covL_still rfl (still_map ro_still _) | (apply covL_set <;> (try clear nw) <;> have nw := True.intro) | exact congrArg (Value.int _) (by (try dsimp only); omega)) | (exact congrArg (Value.int _) (by omega)) | (exact covL_flat (flat_map (fun _ => rfl) _)) | (exact covL_flat flat_nil) | (refine covP_all ?_; (try clear nw); have nw := True.intro) | (refine covL_each ?_; (try clear nw); have nw := True.intro) | (refine ⟨?_, ?_⟩ <;> (try clear nw) <;> have nw := True.intro) | (guard_hyp nw : True; ((conv => whnf) <;> clear nw)))); (first | done | fail)) : p := h
theorem rnJrnChg2 {p : Prop} (h : p := by refine ⟨?_, ?_, ?_⟩; (first | apply rR_tuple | apply rR_one rfl | exact rfl); all_goals (repeat' (first | (with_reducible (first | exact relH_nil | apply rn_lst | apply rn_own | apply rn_mp | apply rn_row | apply rn_abs | exact wo_nil)) | apply wo_keep rfl | apply wo_drop rfl | exact relH_nil | exact r1_flat rfl | exact r0_flat rfl | exact rl_nil | exact wo_nil | exact bk_old rfl | exact bk_new rfl | exact bk_nil rfl | apply rl_cons | (first | exact relL_flat (flat_bind (f := chv) (fun _ => rfl) _) | exact relL_flat (flat_map (fun _ => rfl) _) | first | exact relL_still hvs | exact relL_still (still_map (fun _ => rfl) _) | exact relL_still (still_map ro_still _) | exact relL_flat (flat_map (fun _ => rfl) _) | apply relL_set) | exact relL_flat (flat_map (fun _ => rfl) _) | exact relL_flat flat_nil | apply relL_to | apply rn_lst | apply rn_own | apply rn_mp | apply rn_row | apply relH_view rfl | apply relH_lview rfl | apply relH_fact rfl | exact r1_rig | exact r0_rig | exact r1_rigs | exact r0_rigs | apply wo_keep rfl | apply wo_drop rfl | apply r1_agg | apply rn_ptr | apply rn_slice | apply rn_slice0 | apply rn_iface | apply rn_map | apply rn_ifacem | apply r0_map | apply r0_ifacem | apply r0_ptr | apply r0_slice | apply r0_slice0 | apply r0_iface)); (first | done | fail)) : p := h
set_option maxRecDepth 100000 in
theorem sector_c (n : Nat) (b : Int) (hn : n < 32) (hb8 : 0 ≤ b ∧ b ≤ 255) :
    CallOb Tryz.prog 63 [iv (n : Nat), .int .u8 b] [] 0 (fun v hh m => ∃ z : ByteArray, z = secM (n : Nat) b ∧ v = .string z ∧ hh = [] ∧ m = 0) := by
  refine call_spec tabOk mixed Tryz.call63 Tryz.func63 rfl [] (fun z : ByteArray => z = secM (n : Nat) b) (fun z => .string z) (fun _ => []) (fun _ => 0) ?_ ?_
  · exact (Nat.le_of_ble_eq_true rfl)
  have hcl := fun w => rclose_any 1 (n : Nat) 0 (pgS 232 b) w ⟨by decide, by decide⟩
  obtain ⟨ss, hss⟩ : ∃ s, s = closeS 1 (n : Nat) (Int.toNat 0) (pgS 232 b) := ⟨_, rfl⟩
  have hse : ss = secM (n : Nat) b := by rw [hss]; unfold secM; rfl
  obtain ⟨es, hes⟩ : ∃ s, s = closeE 1 (n : Nat) (pgS 232 b) := ⟨_, rfl⟩
  rw [← hss, ← hes] at hcl
  obtain ⟨pd, hpd⟩ : ∃ s, s = pgS 232 b := ⟨_, rfl⟩
  rw [← hpd] at hcl
  clear hss hes
  have ha : (n : Int) = bits .and .i64 (n : Int) 4095 := (and4095 hn).symm
  (repeat' ((try (conv => whnf)); first | (guard_target =~ ∃ (_ : Value), ∃ (_ : HP), ∃ (_ : HP), _; refine ⟨_, _, _, rnJrnChg2, ?_⟩; (try (dsimp only [Nat.reduceAdd, List.cons_append, List.nil_append]))) | (guard_target =~ ∃ r, r = bits .and .i64 _ 4095 ∧ _; refine ⟨_, ha, ?_⟩) | (guard_target =~ CallOb _ 64 _ _ _ _; refine call_q (jpage_c b hb8) [] cvJrnChg1 (by rfl) (by rfl) (by rfl) (fun v h1 n1 hp => ?_); obtain ⟨pz, _, hpz, rfl, rfl, rfl⟩ := hp; rw [hpz, ← hpd]; (try (dsimp only [Nat.reduceAdd, List.cons_append, List.nil_append]))) | (guard_target =~ CallOb _ 8 _ _ _ _; (with_reducible refine call_pure Tryz.call8 (hcl) ?_ ?_ ?_); exact rfl; exact rfl) | (with_reducible refine chk_in (Nat.ble_eq_true_of_le (by omega)) ?_) | (with_reducible refine ifB_in ?_ ?_ <;> intro hb <;> (try simp only [decide_eq_true_eq, decide_eq_false_iff_not, Int.not_lt, Int.not_le, ne_eq, Decidable.not_not, Bool.not_eq_true', Bool.not_eq_false', gt_iff_lt, ge_iff_le] at hb) <;> (try (exfalso; omega))) | (with_reducible refine ⟨_, w64b _, ?_⟩) | (with_reducible refine ⟨_, w64 (by omega) (by omega), ?_⟩) | (with_reducible refine ⟨_, wu64 (by omega) (by omega), ?_⟩) | (with_reducible refine ⟨_, wu8 (by omega) (by omega), ?_⟩) | (with_reducible refine ⟨_, w64 (by (simp only [size_sfrom, ByteArray.size_extract, ByteArray.size_append, strOf_size, fixedL_length, lit_size, List.size_toArray, List.length_cons, List.length_nil, List.length_append, List.length_replicate]; omega)) (by (simp only [size_sfrom, ByteArray.size_extract, ByteArray.size_append, strOf_size, fixedL_length, lit_size, List.size_toArray, List.length_cons, List.length_nil, List.length_append, List.length_replicate]; omega)), ?_⟩) | (with_reducible refine ⟨_, rfl, ?_⟩) | (with_reducible refine ⟨rfl, ?_⟩) | (intro cap) | (with_reducible refine ⟨trivial, ?_⟩) | (guard_target =~ (planChk _ _ = true) ∧ _; refine ⟨by kernel_rfl, ?_⟩) | (guard_target =~ (_ ∧ _) ∧ _; refine ⟨by ((repeat (first | exact trivial | refine ⟨rfl, ?_⟩)); (first | done | fail)), ?_⟩) | (refine ⟨by omega, ?_⟩) | (refine ⟨by (simp only [size_sfrom, ByteArray.size_extract, ByteArray.size_append, strOf_size, fixedL_length, lit_size, List.size_toArray, List.length_cons, List.length_nil, List.length_append, List.length_replicate]; omega), ?_⟩) | (refine ⟨0, rfl, ?_⟩) | (refine ⟨1, rfl, ?_⟩) | (refine ⟨2, rfl, ?_⟩) | (refine ⟨3, rfl, ?_⟩) | (refine ⟨4, rfl, ?_⟩) | (refine ⟨5, rfl, ?_⟩) | (refine cell_at1 (by assumption) ?_) | (refine cell_in1 (by omega) (fun x hx => ?_)) | fail)) <;> (try (conv => whnf))
  (refine Ends.go (ss) ?_ [] (Fit.q cvJrnChg1 (by rfl) (by rfl)))
  exact hse
structure WI where
  i : Nat
  D : DM
  S : Nat → Prop
set_option maxRecDepth 100000 in
theorem laid_c (p : Nat) (hp : p < 9) :
    CallOb Tryz.prog 22 [iv (p : Nat)] [] 0 (fun v hh m => ∃ z : DM × (Nat → Prop), LaydR p z.1 ∧ v = ptr 0 ∧ hh = [(0, diskI z.2 z.1)] ∧ m = 60) := by
  refine call_spec tabOk mixed Tryz.call22 Tryz.func22 rfl [] (fun z : DM × (Nat → Prop) => LaydR p z.1) (fun z => ptr 0) (fun z => [(0, diskI z.2 z.1)]) (fun _ => 60) ?_ ?_
  · exact (Nat.le_of_ble_eq_true rfl)
  (repeat' ((try (conv => whnf)); first | (guard_target =~ ∃ (_ : Value), ∃ (_ : HP), ∃ (_ : HP), _; refine ⟨_, _, _, rnJrnChg2, ?_⟩; (try (dsimp only [Nat.reduceAdd, List.cons_append, List.nil_append]))) | (guard_target =~ CallOb _ 9 _ _ _ _; refine call_q (new_c 16384 (by decide)) [] cvJrnChg1 (by rfl) (by rfl) (by rfl) (fun v h1 n1 hp => ?_); obtain ⟨D0, S0, hD0, rfl, rfl, rfl⟩ := hp; have R0 := LayR.start hD0; clear hD0; (try (dsimp only [Nat.reduceAdd, List.cons_append, List.nil_append]))) | (guard_target =~ LoopOb _ _ _ _ _ _ _ _; refine loop_rule tabOk mixed [] 1 (fun k : WI => [(0, iv (p : Nat)), (3, ptr 0), (4, iv (k.i : Nat))]) (fun k => [(0, diskI k.S k.D)]) (fun k => p - k.i) (fun k => k.i ≤ p ∧ LayR k.i k.D) ⟨0, D0, S0⟩ ⟨Nat.zero_le _, R0⟩ ⟨[(0, some _)], Sub.q cvJrnChg1 (by rfl) (by rfl)⟩ (fun k hk => ?_)) | (guard_hyp k : WI; rcases k with ⟨i, D, S⟩; dsimp only at hk ⊢; obtain ⟨hki, hkr⟩ := hk) | (guard_target =~ CallOb _ 63 _ _ _ _; refine call_q (sector_c i (i : Nat) (by omega) (by omega)) [] cvJrnChg1 (by rfl) (by rfl) (by rfl) (fun v h1 n1 hp => ?_); obtain ⟨sc, hsc, rfl, rfl, rfl⟩ := hp; (try (dsimp only [Nat.reduceAdd, List.cons_append, List.nil_append]))) | (guard_target =~ CallOb _ 62 _ _ _ _; refine call_q (write_c S D (up_ok hkr.up.ok (by omega)) mainN (i : Nat) sc (by omega)) [(0, some _)] cvJrnChg1 (by rfl) (by rfl) (by rfl) (fun v h1 n1 hp => ?_); obtain ⟨ew, D', S', hw, rfl, rfl, rfl⟩ := hp; rw [hsc] at hw; (try (dsimp only [Nat.reduceAdd, List.cons_append, List.nil_append]))) | (guard_target =~ CallOb _ 28 _ _ _ _; refine call_q (sync_c S D (up_ok hkr.up.ok (by omega)) mainN) [(0, some _)] cvJrnChg1 (by rfl) (by rfl) (by rfl) (fun v h1 n1 hp => ?_); obtain ⟨ey, D', S', hy, rfl, rfl, rfl⟩ := hp; (try (dsimp only [Nat.reduceAdd, List.cons_append, List.nil_append]))) | (with_reducible refine chk_in (Nat.ble_eq_true_of_le (by omega)) ?_) | (with_reducible refine ifB_in ?_ ?_ <;> intro hb <;> (try simp only [decide_eq_true_eq, decide_eq_false_iff_not, Int.not_lt, Int.not_le, ne_eq, Decidable.not_not, Bool.not_eq_true', Bool.not_eq_false', gt_iff_lt, ge_iff_le] at hb) <;> (try (exfalso; omega))) | (with_reducible refine ⟨_, w64b _, ?_⟩) | (with_reducible refine ⟨_, w64 (by omega) (by omega), ?_⟩) | (with_reducible refine ⟨_, wu64 (by omega) (by omega), ?_⟩) | (with_reducible refine ⟨_, wu8 (by omega) (by omega), ?_⟩) | (with_reducible refine ⟨_, w64 (by (simp only [size_sfrom, ByteArray.size_extract, ByteArray.size_append, strOf_size, fixedL_length, lit_size, List.size_toArray, List.length_cons, List.length_nil, List.length_append, List.length_replicate]; omega)) (by (simp only [size_sfrom, ByteArray.size_extract, ByteArray.size_append, strOf_size, fixedL_length, lit_size, List.size_toArray, List.length_cons, List.length_nil, List.length_append, List.length_replicate]; omega)), ?_⟩) | (with_reducible refine ⟨_, rfl, ?_⟩) | (with_reducible refine ⟨rfl, ?_⟩) | (intro cap) | (with_reducible refine ⟨trivial, ?_⟩) | (guard_target =~ (planChk _ _ = true) ∧ _; refine ⟨by kernel_rfl, ?_⟩) | (guard_target =~ (_ ∧ _) ∧ _; refine ⟨by ((repeat (first | exact trivial | refine ⟨rfl, ?_⟩)); (first | done | fail)), ?_⟩) | (refine ⟨by omega, ?_⟩) | (refine ⟨by (simp only [size_sfrom, ByteArray.size_extract, ByteArray.size_append, strOf_size, fixedL_length, lit_size, List.size_toArray, List.length_cons, List.length_nil, List.length_append, List.length_replicate]; omega), ?_⟩) | (refine ⟨0, rfl, ?_⟩) | (refine ⟨1, rfl, ?_⟩) | (refine ⟨2, rfl, ?_⟩) | (refine ⟨3, rfl, ?_⟩) | (refine ⟨4, rfl, ?_⟩) | (refine ⟨5, rfl, ?_⟩) | (refine cell_at1 (by assumption) ?_) | (refine cell_in1 (by omega) (fun x hx => ?_)) | fail)) <;> (try (conv => whnf))
  all_goals first
    | ((refine Again.go ((⟨i + 1, D', S'⟩ : WI)) ?_ (by (try dsimp only); omega) [(0, some _)] (Sub.q cvJrnChg1 (by rfl) (by rfl))); exact ⟨by dsimp only; omega, hkr.step (by omega) hw⟩)
    | ((refine Ends.go ((D', S')) ?_ [(0, some _)] (Fit.q cvJrnChg1 (by rfl) (by rfl))); have hip : i = p := (by omega); subst hip; exact hkr.sync (by omega) (by omega) hy)
    | ((refine Ends.go ((D, S)) ?_ [(0, some _)] (Fit.q cvJrnChg1 (by rfl) (by rfl))); have hip : i = 0 ∧ p = 0 := (by omega); obtain ⟨rfl, rfl⟩ := hip; exact hkr.none)
    | trace_state
set_option maxRecDepth 100000 in
set_option maxHeartbeats 20000000 in
theorem changed_c (p : Nat) (hp9 : p < 9) (S : Nat → Prop) (D : DM) {N : Int} (hD : D.OkN N) (hN : 0 ≤ N ∧ N ≤ 100000) (hz : sizeD D jnN < 0) (L : List ChT) (cap : Nat) (hL : ∀ y ∈ L, 0 ≤ y.2.1 ∧ y.2.1 ≤ 255) (hl : L.length ≤ 4611686018427387904) :
    CallOb Tryz.prog 24 [ptr 0, iv (p : Nat), mslice 1 L.length cap] [(0, diskI S D), (1, .lview (L.flatMap chv))] 2 (fun v hh m => ∃ z : Int × DM × (Nat → Prop), (z.1, z.2.1) = changedD (p : Nat) L D ∧ v = iv z.1 ∧ hh = [(0, diskI z.2.2 z.2.1)] ∧ m = 60) := by
  refine call_spec tabOk mixed Tryz.call24 Tryz.func24 rfl [] (fun z : Int × DM × (Nat → Prop) => (z.1, z.2.1) = changedD (p : Nat) L D) (fun z => iv z.1) (fun z => [(0, diskI z.2.2 z.2.1)]) (fun _ => 60) ?_ ?_
  · exact (Nat.le_of_ble_eq_true rfl)
  have hrun0 : changedL (p : Nat) ((L.take 20).drop 0) ⟨(p : Nat), 99, [], 0, 0⟩ D false = changedD (p : Nat) L D := by unfold changedD; rw [List.drop_zero]
  (repeat' ((try (conv => whnf)); first | (guard_target =~ ∃ (_ : Value), ∃ (_ : HP), ∃ (_ : HP), _; refine ⟨_, _, _, rnJrnChg2, ?_⟩; (try (dsimp only [Nat.reduceAdd, List.cons_append, List.nil_append]))) | (guard_target =~ CallOb _ 30 _ _ _ _; refine call_q (start_ok S D (up_ok hD (by omega)) (p : Nat) 99 (by omega) hz) [(0, some 0)] cvJrnChg1 (by rfl) (by rfl) (by rfl) (fun v h1 n1 hp => ?_); obtain ⟨⟨es, S⟩, hes, rfl, rfl, rfl⟩ := hp; dsimp only at hes; (try (dsimp only [Nat.reduceAdd, List.cons_append, List.nil_append]))) | (guard_hyp k : JC; have hk0 := hk; rcases k with ⟨i, J, D1, S1, b⟩; dsimp only at hk hk0 ⊢; have hki := hk.le; have hok := hk.ok; have hjb := hk.jb; dsimp only at hki hok hjb; have hjk := hjb.jok (by omega) (by omega); have mkC : 1 = 1 := rfl) | (guard_target =~ LoopOb _ _ _ _ _ _ _ _; refine loop_rule tabOk mixed [] 4 (fun k : JC => [(0, ptr 0), (1, iv (p : Nat)), (2, mslice 1 L.length cap), (7, ptr 2), (9, .bool k.b), (10, iv (k.i : Nat))]) (fun k => [(0, diskI k.S k.D), (1, .lview (L.flatMap chv)), (2, .own 124 [ptr 0, iv k.J.pages, .int .u64 k.J.salt, .map (some 3), iv k.J.loose, iv k.J.feet]), (3, .mp (k.J.noted.map iv) (k.J.noted.map fun _ => Value.bool true))]) (fun k => 20 - k.i) (fun k => JCR p L D N k) ⟨0, ⟨(p : Nat), 99, [], 0, 0⟩, D, S, false⟩ ⟨⟨Nat.zero_le _, Nat.zero_le _⟩, hrun0, hD.mono (by dsimp only; omega), ⟨rfl, rfl, by dsimp only; omega, by dsimp only; omega⟩⟩ ⟨[(0, some 0), (2, some 12), (3, some 13)], Sub.q cvJrnChg1 (by rfl) (by rfl)⟩ (fun k hk => ?_)) | (guard_target =~ ∃ (_ : Nat), _ ∧ _; guard_hyp mkC : 1 = 1; refine ⟨i, by omega, by omega, ?_⟩) | (guard_target =~ ∃ r, r = IntKind.wrap .u64 y.1 ∧ _; refine ⟨wy, hwy, ?_⟩) | (guard_target =~ ∃ r, r = Int.tmod wy _ ∧ _; refine ⟨((n : Nat) : Int), hn1, ?_⟩) | (guard_target =~ CallOb _ 33 _ _ _ _; refine call_q (has_c J S1 D1 (n : Nat)) [(0, some 2), (1, some 0), (2, some 3)] cvJrnChg1 (by rfl) (by rfl) (by rfl) (fun v h1 n1 hp => ?_); obtain ⟨zh, hzh, rfl, rfl, rfl⟩ := hp; have hzc : zh = true ↔ ¬ (((n : Nat) : Int) < ((p : Nat) : Int) ∧ ((n : Nat) : Int) ∉ J.noted) := hzh.trans ⟨fun h h' => h'.2 h, fun h => Classical.byContradiction fun h' => h ⟨by omega, h'⟩⟩; (try (dsimp only [Nat.reduceAdd, List.cons_append, List.nil_append]))) | (guard_target =~ CallOb _ 64 _ _ _ _; refine call_q (jpage_c (n : Nat) (by omega)) [] cvJrnChg1 (by rfl) (by rfl) (by rfl) (fun v h1 n1 hp => ?_); obtain ⟨pd, hps, hpe, rfl, rfl, rfl⟩ := hp; (try (dsimp only [Nat.reduceAdd, List.cons_append, List.nil_append]))) | (guard_target =~ CallOb _ 31 _ _ _ _; refine call_q (note_c J S1 D1 hok (by omega) hjk (n : Nat) pd) [(0, some 2), (1, some 0), (2, some 3)] cvJrnChg1 (by rfl) (by rfl) (by rfl) (fun v h1 n1 hp => ?_); obtain ⟨⟨e1, J2, D2, S2⟩, ha, rfl, rfl, rfl⟩ := hp; dsimp only at ha; have hk2 := note_okN hok J (n : Nat) pd; have hj2 := note_JB hjb D1 (n : Nat) pd; rw [← ha] at hk2 hj2; dsimp only at hk2 hj2; rw [hpe, ← noteC_yes hc] at ha; have hjk2 := hj2.jok (by omega) (by omega); (try (dsimp only [Nat.reduceAdd, List.cons_append, List.nil_append]))) | (guard_target =~ CallOb _ 32 _ _ _ _; first | (guard_hyp hj2 : JB J2 _ _ _; refine call_q (seal_c J2 S2 D2 hk2 (by omega) hjk2) [(0, some 2), (1, some 0), (2, some 3)] cvJrnChg1 (by rfl) (by rfl) (by rfl) (fun v h1 n1 hp => ?_); obtain ⟨⟨e4, J4, D4, S4⟩, hs, rfl, rfl, rfl⟩ := hp; dsimp only at hs; have hk4 := seal_okN hk2 J2; have hj4 := seal_JB hj2 D2; rw [← hs] at hk4 hj4; dsimp only at hk4 hj4; have hk4 := hk4.mono (m := N + 6 * ((i : Nat) : Int) + 4) (by omega); have hj4 := hj4.mono (c' := 2 * i + 2) (by omega); rw [← sealC_yes (b := b) (.inl hc)] at hs; (try (dsimp only [Nat.reduceAdd, List.cons_append, List.nil_append]))) | (refine call_q (seal_c J S1 D1 hok (by omega) hjk) [(0, some 2), (1, some 0), (2, some 3)] cvJrnChg1 (by rfl) (by rfl) (by rfl) (fun v h1 n1 hp => ?_); obtain ⟨⟨e4, J4, D4, S4⟩, hs, rfl, rfl, rfl⟩ := hp; dsimp only at hs; have hk4 := seal_okN hok J; have hj4 := seal_JB hjb D1; rw [← hs] at hk4 hj4; dsimp only at hk4 hj4; have hk4 := hk4.mono (m := N + 6 * ((i : Nat) : Int) + 4) (by omega); have hj4 := hj4.mono (c' := 2 * i + 2) (by omega); rw [← sealC_yes (J := J) (p := ((p : Nat) : Int)) (n := ((n : Nat) : Int)) (b := b) (.inr ‹b = false›)] at hs; have ha := noteC_no (D := D1) hc; (try (dsimp only [Nat.reduceAdd, List.cons_append, List.nil_append])))) | (guard_target =~ CallOb _ 20 _ _ _ _; first | (guard_hyp hs : (e4, J4, D4) = _; refine call_q (size_k S4 D4 (up_ok hk4 (by omega)) mainN) [(0, some 0)] cvJrnChg1 (by rfl) (by rfl) (by rfl) (fun v h1 n1 hp => ?_); obtain ⟨sz, S4, hsz, rfl, rfl, rfl⟩ := hp; have hzb := sizeD_bound (up_ok hk4 (by omega)) mainN; (try (dsimp only [Nat.reduceAdd, List.cons_append, List.nil_append]))) | (refine call_q (size_k S1 D1 (up_ok hok (by omega)) mainN) [(0, some 0)] cvJrnChg1 (by rfl) (by rfl) (by rfl) (fun v h1 n1 hp => ?_); obtain ⟨sz, S4, hsz, rfl, rfl, rfl⟩ := hp; have ha := noteC_no (D := D1) hc; have hzb := sizeD_bound (up_ok hok (by omega)) mainN; have hs := sealC_no (J1 := J) (D := D1) hc ‹b = true›; have hk4 := hok.mono (m := N + 6 * ((i : Nat) : Int) + 4) (by omega); have hj4 := hjb.mono (c' := 2 * i + 2) (by omega); (try (dsimp only [Nat.reduceAdd, List.cons_append, List.nil_append])))) | (guard_target =~ ∃ r, r = max _ _ ∧ _; obtain ⟨mx, hmx⟩ : ∃ mx, mx = max sz 0 := ⟨_, rfl⟩; refine ⟨mx, hmx, ?_⟩; rw [hsz] at hmx) | (guard_target =~ CallOb _ 63 _ _ _ _; refine call_q (sector_c n y.2.1 (by omega) hyf) [] cvJrnChg1 (by rfl) (by rfl) (by rfl) (fun v h1 n1 hp => ?_); obtain ⟨sc, hsc, rfl, rfl, rfl⟩ := hp; (try (dsimp only [Nat.reduceAdd, List.cons_append, List.nil_append]))) | (guard_target =~ CallOb _ 62 _ _ _ _; first | (guard_hyp hs : (e4, J4, D4) = _; refine call_q (write_c S4 D4 (up_ok hk4 (by omega)) mainN (n : Nat) sc (by omega)) [(0, some 0)] cvJrnChg1 (by rfl) (by rfl) (by rfl) (fun v h1 n1 hp => ?_); obtain ⟨ew, D5, S5, hw, rfl, rfl, rfl⟩ := hp; have hk5 := write_okN hk4 mainN (n : Nat) sc; rw [← hw] at hk5; dsimp only at hk5; rw [hsc] at hw; (try (dsimp only [Nat.reduceAdd, List.cons_append, List.nil_append]))) | (refine call_q (write_c S4 D1 (up_ok hk4 (by omega)) mainN (n : Nat) sc (by omega)) [(0, some 0)] cvJrnChg1 (by rfl) (by rfl) (by rfl) (fun v h1 n1 hp => ?_); obtain ⟨ew, D5, S5, hw, rfl, rfl, rfl⟩ := hp; have hk5 := write_okN hk4 mainN (n : Nat) sc; rw [← hw] at hk5; dsimp only at hk5; rw [hsc] at hw; (try (dsimp only [Nat.reduceAdd, List.cons_append, List.nil_append])))) | (guard_target =~ CallOb _ 28 _ _ _ _; refine call_q (sync_c S5 D5 (up_ok hk5 (by omega)) mainN) [(0, some 0)] cvJrnChg1 (by rfl) (by rfl) (by rfl) (fun v h1 n1 hp => ?_); obtain ⟨et, D6, S6, ht, rfl, rfl, rfl⟩ := hp; have hk6 := sync_okN hk5 mainN; rw [← ht] at hk6; dsimp only at hk6; (try (dsimp only [Nat.reduceAdd, List.cons_append, List.nil_append]))) | (guard_hyp mkC : 1 = 1; first | (guard_hyp hyi : L[i]? = some y; first | (refine ch_fill hyi (by omega) ?_) | (refine ch_seal hyi (by omega) ?_)) | (obtain ⟨y, hyi⟩ : ∃ y, L[i]? = some y := ⟨_, List.getElem?_eq_getElem (show i < L.length by omega)⟩; refine ch_num hyi (by omega) ?_; have hyf := hL y (List.mem_of_getElem? hyi); have hrun := hk.next hyi (by dsimp only; omega); dsimp only at hrun; obtain ⟨n, hn1, hn2, hn3⟩ := pick_nat y p; obtain ⟨wy, hwy⟩ : ∃ w, w = IntKind.u64.wrap y.1 := ⟨_, rfl⟩; rw [← hwy] at hn1; have hwb : 0 ≤ wy ∧ wy ≤ 18446744073709551615 := (by rw [hwy, IntKind.wrap_u64]; omega); rcases Classical.em (((n : Nat) : Int) < ((p : Nat) : Int) ∧ ((n : Nat) : Int) ∉ J.noted) with hc | hc)) | (with_reducible refine chk_in (Nat.ble_eq_true_of_le (by omega)) ?_) | (with_reducible refine ifB_in ?_ ?_ <;> intro hb <;> (try simp only [decide_eq_true_eq, decide_eq_false_iff_not, Int.not_lt, Int.not_le, ne_eq, Decidable.not_not, Bool.not_eq_true', Bool.not_eq_false', gt_iff_lt, ge_iff_le] at hb) <;> (try (exfalso; omega))) | (with_reducible refine ⟨_, w64b _, ?_⟩) | (with_reducible refine ⟨_, w64 (by omega) (by omega), ?_⟩) | (with_reducible refine ⟨_, wu64 (by omega) (by omega), ?_⟩) | (with_reducible refine ⟨_, wu8 (by omega) (by omega), ?_⟩) | (with_reducible refine ⟨_, w64 (by (simp only [size_sfrom, ByteArray.size_extract, ByteArray.size_append, strOf_size, fixedL_length, lit_size, List.size_toArray, List.length_cons, List.length_nil, List.length_append, List.length_replicate]; omega)) (by (simp only [size_sfrom, ByteArray.size_extract, ByteArray.size_append, strOf_size, fixedL_length, lit_size, List.size_toArray, List.length_cons, List.length_nil, List.length_append, List.length_replicate]; omega)), ?_⟩) | (with_reducible refine ⟨_, rfl, ?_⟩) | (with_reducible refine ⟨rfl, ?_⟩) | (intro cap) | (with_reducible refine ⟨trivial, ?_⟩) | (guard_target =~ (planChk _ _ = true) ∧ _; refine ⟨by kernel_rfl, ?_⟩) | (guard_target =~ (_ ∧ _) ∧ _; refine ⟨by ((repeat (first | exact trivial | refine ⟨rfl, ?_⟩)); (first | done | fail)), ?_⟩) | (refine ⟨by omega, ?_⟩) | (refine ⟨by (simp only [size_sfrom, ByteArray.size_extract, ByteArray.size_append, strOf_size, fixedL_length, lit_size, List.size_toArray, List.length_cons, List.length_nil, List.length_append, List.length_replicate]; omega), ?_⟩) | (refine ⟨0, rfl, ?_⟩) | (refine ⟨1, rfl, ?_⟩) | (refine ⟨2, rfl, ?_⟩) | (refine ⟨3, rfl, ?_⟩) | (refine ⟨4, rfl, ?_⟩) | (refine ⟨5, rfl, ?_⟩) | (refine cell_at1 (by assumption) ?_) | (refine cell_in1 (by omega) (fun x hx => ?_)) | fail)) <;> (try (conv => whnf))
  all_goals first
    | (guard_hyp hb : ¬ e1 = 0; (refine Ends.go ((e1, D2, S2)) ?_ [(0, some 0)] (Fit.q cvJrnChg1 (by rfl) (by rfl))); exact (chg1 hn3 ha hb).symm.trans hrun)
    | (guard_hyp hb : ¬ e4 = 0; (refine Ends.go ((e4, D4, S4)) ?_ [(0, some 0)] (Fit.q cvJrnChg1 (by rfl) (by rfl))); exact (chg2 hn3 ha (by first | exact ‹e1 = 0› | rfl) hs hb).symm.trans hrun)
    | (guard_hyp hb : max sz 0 < ((n : Nat) : Int); first | ((refine Again.go ((⟨i + 1, J4, D4, S4, true⟩ : JC)) ?_ (by (try dsimp only); omega) [(0, some 0), (2, some 2), (3, some 3)] (Sub.q cvJrnChg1 (by rfl) (by rfl))); exact ⟨⟨by dsimp only; omega, by dsimp only; omega⟩, (chg3 hn3 ha (by first | exact ‹e1 = 0› | rfl) hs (by first | exact ‹e4 = 0› | rfl) (by rw [← hsz]; exact ‹max sz 0 < ((n : Nat) : Int)›)).symm.trans hrun, hk4.mono (by dsimp only; omega), hj4.mono (by dsimp only; omega)⟩) | (obtain rfl := ‹b = true›; (refine Again.go ((⟨i + 1, J, D1, S4, true⟩ : JC)) ?_ (by (try dsimp only); omega) [(0, some 0), (2, some 2), (3, some 3)] (Sub.q cvJrnChg1 (by rfl) (by rfl))); exact ⟨⟨by dsimp only; omega, by dsimp only; omega⟩, (chg3 hn3 ha (by first | exact ‹e1 = 0› | rfl) hs (by first | exact ‹e4 = 0› | rfl) (by rw [← hsz]; exact ‹max sz 0 < ((n : Nat) : Int)›)).symm.trans hrun, hk4.mono (by dsimp only; omega), hj4.mono (by dsimp only; omega)⟩))
    | (guard_hyp hb : ¬ ew = 0; (refine Ends.go ((ew, D5, S5)) ?_ [(0, some 0)] (Fit.q cvJrnChg1 (by rfl) (by rfl))); exact (chg4 hn3 ha (by first | exact ‹e1 = 0› | rfl) hs (by first | exact ‹e4 = 0› | rfl) (by rw [← hsz]; omega) hw hb).symm.trans hrun)
    | (guard_hyp hb : ¬ et = 0; (refine Ends.go ((et, D6, S6)) ?_ [(0, some 0)] (Fit.q cvJrnChg1 (by rfl) (by rfl))); exact (chg5 hn3 ha (by first | exact ‹e1 = 0› | rfl) hs (by first | exact ‹e4 = 0› | rfl) (by rw [← hsz]; omega) hw ‹ew = 0› ‹y.2.2 = true› ht hb).symm.trans hrun)
    | (guard_hyp hb : et = 0; first | ((refine Again.go ((⟨i + 1, J4, D6, S6, true⟩ : JC)) ?_ (by (try dsimp only); omega) [(0, some 0), (2, some 2), (3, some 3)] (Sub.q cvJrnChg1 (by rfl) (by rfl))); exact ⟨⟨by dsimp only; omega, by dsimp only; omega⟩, (chg6 hn3 ha (by first | exact ‹e1 = 0› | rfl) hs (by first | exact ‹e4 = 0› | rfl) (by rw [← hsz]; omega) hw ‹ew = 0› ‹y.2.2 = true› ht ‹et = 0›).symm.trans hrun, hk6.mono (by dsimp only; omega), hj4.mono (by dsimp only; omega)⟩) | (obtain rfl := ‹b = true›; (refine Again.go ((⟨i + 1, J, D6, S6, true⟩ : JC)) ?_ (by (try dsimp only); omega) [(0, some 0), (2, some 2), (3, some 3)] (Sub.q cvJrnChg1 (by rfl) (by rfl))); exact ⟨⟨by dsimp only; omega, by dsimp only; omega⟩, (chg6 hn3 ha (by first | exact ‹e1 = 0› | rfl) hs (by first | exact ‹e4 = 0› | rfl) (by rw [← hsz]; omega) hw ‹ew = 0› ‹y.2.2 = true› ht ‹et = 0›).symm.trans hrun, hk6.mono (by dsimp only; omega), hj4.mono (by dsimp only; omega)⟩))
    | (guard_hyp hb : y.2.2 = false; first | ((refine Again.go ((⟨i + 1, J4, D5, S5, true⟩ : JC)) ?_ (by (try dsimp only); omega) [(0, some 0), (2, some 2), (3, some 3)] (Sub.q cvJrnChg1 (by rfl) (by rfl))); exact ⟨⟨by dsimp only; omega, by dsimp only; omega⟩, (chg7 hn3 ha (by first | exact ‹e1 = 0› | rfl) hs (by first | exact ‹e4 = 0› | rfl) (by rw [← hsz]; omega) hw ‹ew = 0› ‹y.2.2 = false›).symm.trans hrun, hk5.mono (by dsimp only; omega), hj4.mono (by dsimp only; omega)⟩) | (obtain rfl := ‹b = true›; (refine Again.go ((⟨i + 1, J, D5, S5, true⟩ : JC)) ?_ (by (try dsimp only); omega) [(0, some 0), (2, some 2), (3, some 3)] (Sub.q cvJrnChg1 (by rfl) (by rfl))); exact ⟨⟨by dsimp only; omega, by dsimp only; omega⟩, (chg7 hn3 ha (by first | exact ‹e1 = 0› | rfl) hs (by first | exact ‹e4 = 0› | rfl) (by rw [← hsz]; omega) hw ‹ew = 0› ‹y.2.2 = false›).symm.trans hrun, hk5.mono (by dsimp only; omega), hj4.mono (by dsimp only; omega)⟩))
    | (exfalso; exact hzc.1 hb hc)
    | exact Bool.noConfusion ((hzc.2 hc).symm.trans hb)
    | (exfalso; exact hzc.1 ‹zh = true› hc)
    | exact Bool.noConfusion ((hzc.2 hc).symm.trans ‹zh = false›)
    | ((refine Ends.go ((0, D1, S1)) ?_ [(0, some 0)] (Fit.q cvJrnChg1 (by rfl) (by rfl))); exact hk.done (by dsimp only; omega))
    | trace_state
end Go.Proofs.YtncnfmpclgkogaaGreat
