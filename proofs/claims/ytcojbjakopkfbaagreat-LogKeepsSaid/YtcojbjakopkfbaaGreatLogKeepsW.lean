/- LogKeeps: frames are laid until the power goes; the log that is opened anew; its walk. -/
import Derived.Test.YtcojbjakopkfbaaGreatLogAwake
import Derived.Test.YtcojbjakopkfbaaGreatDiskOn
namespace Go.Proofs.YtcojbjakopkfbaaGreat
open Go.RowKit
set_option linter.unusedSimpArgs false
set_option linter.unusedVariables false
structure LgK (X : List XL) (laid sure : Nat) (fs : List Fr) (cap : Nat) (D : DM) (N : Int) : Prop where
  keep : KeepR X laid sure fs D
  ok : D.OkN N
  cap : fs.length ≤ cap
section
variable {X : List XL} {laid sure : Nat} {fs fs' : List Fr} {cap cap' : Nat} {D D' : DM} {N : Int}
theorem LgK.mono (h : LgK X laid sure fs cap D N) {N' : Int} (hN : N ≤ N') : LgK X laid sure fs cap D N' := ⟨h.keep, h.ok.mono hN, h.cap⟩
theorem LgK.len (h : LgK X laid sure fs cap D N) : fs.length = laid := by
  rw [h.keep.fs, layF_len, List.length_take]
  have := h.keep.le
  omega
theorem LgK.u (h : LgK X laid sure fs cap D N) : ∀ f ∈ fs, U64 f.2.1 := by rw [h.keep.fs]; exact lay_u _ _
theorem LgK.start {D0 : DM} {r : Int} (X : List XL) (h : D0 = newD r) (hr : 100 ≤ r) (ho : ((0, fs), D) = openL D0) (hc : fs.length ≤ cap) {a : Int} (ha : a ≤ 9223372036854775807) (hD' : D' = armD D a 2 0) : LgK X 0 0 fs cap D' 1 := by
  obtain ⟨e, hu⟩ := keep_start X h hr a
  rw [e] at ho
  simp only [Prod.mk.injEq] at ho
  obtain ⟨⟨_, rfl⟩, rfl⟩ := ho
  subst hD'
  refine ⟨hu, ?_, hc⟩
  have : (newD r).OkN 1 := (new_okN r).mono (by decide)
  rw [h]
  exact arm_okN this (by decide) (by decide) ha
theorem LgK.add (h : LgK X laid sure fs cap D N) {x : XL} (hx : X[laid]? = some x) (hxo : XOk x) (hi : laid < 90) {e : Int} (ha : (e, fs', D') = addL fs D x.1 x.2.1 x.2.2) (hc : fs'.length ≤ cap') :
    (e = 0 → LgK X (laid + 1) sure fs' cap' D' (N + 2)) ∧ (¬ e = 0 → LgK X laid sure fs' cap' D' (N + 2)) := by
  obtain ⟨h1, h2⟩ := keep_add h.keep hx hxo hi ha
  have := addL_okN h.ok fs x.1 x.2.1 x.2.2
  rw [← ha] at this
  exact ⟨fun q => ⟨h1 q, this, hc⟩, fun q => ⟨h2 q, this, hc⟩⟩
theorem LgK.sync (h : LgK X laid sure fs cap D N) {e : Int} (ha : (e, D') = lsyncL D) :
    (e = 0 → LgK X laid (supC X laid) fs cap D' (N + 1)) ∧ (¬ e = 0 → LgK X laid sure fs cap D' (N + 1)) := by
  obtain ⟨h1, h2⟩ := keep_sync h.keep ha
  have := lsyncL_okN h.ok
  rw [← ha] at this
  exact ⟨fun q => ⟨h1 q, this, h.cap⟩, fun q => ⟨h2 q, this, h.cap⟩⟩
theorem LgK.sup (h : LgK X laid sure fs cap D N) : sure = supC X sure ∧ sure ≤ laid := by
  obtain ⟨k, o, s, s0, _, _, _, h1, _, rfl⟩ := h.keep.ex
  exact ⟨(supC_self X s0).symm, Nat.le_trans (supC_le X s0) h1⟩
theorem LgK.on (h : LgK X laid sure fs cap D N) (F : List Int) {D1 D2 D3 : DM} (h1 : D1 = offD D) (h2 : D2 = onD D1 F) (h3 : D3 = armD D2 0 0 0) :
    D1.OkN (N + 1) ∧ D2.OkN (N + 1) ∧ D3.OkN (N + 1) ∧ (openL D3).1.1 = 0 ∧ ∀ {fs' : List Fr} {D' : DM} {cap' : Nat}, ((0, fs'), D') = openL D3 → fs'.length ≤ cap' → ∃ n, sure ≤ n ∧ n ≤ laid ∧ (0 < n → commitAt X (n - 1) = true) ∧ LgR (X.take n) fs' cap' D' (N + 1 + laid + 2) := by
  subst h1
  have k1 := off_okN h.ok
  have k2 := on_okN k1 F
  rw [← h2] at k2
  have k3 : D3.OkN (N + 1) := by rw [h3]; exact arm_okN k2 (by decide) (by decide) (by decide)
  obtain ⟨q1, q2⟩ := keep_open h.keep F (D2 := D3) (by rw [h3, h2]) k3
  exact ⟨k1, k2, k3, q1, q2⟩
end
theorem commit_at {L : List FT} {j : Nat} {y : FT} (h : L[j]? = some y) : commitAt (L.map toX) j = y.2.2.1 := by
  unfold commitAt
  rw [List.getElem?_map, h]
  rfl
theorem x_at {L : List FT} {j : Nat} {y : FT} (h : L[j]? = some y) : (L.map toX)[j]? = some (toX y) := by rw [List.getElem?_map, h]; rfl
theorem take_fts (L : List FT) (n : Nat) : (L.flatMap ftv).take (n * 4) = (L.take n).flatMap ftv := by
  induction L generalizing n with
  | nil => simp
  | cons y r ih =>
    cases n with
    | zero => simp
    | succ n =>
      rw [List.flatMap_cons, List.take_succ_cons, List.flatMap_cons, ← ih n, show (n + 1) * 4 = (ftv y).length + n * 4 by show (n + 1) * 4 = 4 + n * 4; omega, List.take_length_add_append]
theorem sup_step {X : List XL} {k : Nat} {b : Bool} (h : commitAt X k = b) : supC X (k + 1) = if b = true then k + 1 else supC X k := by
  rw [← h]; rfl
structure KS where
  i : Nat
  su : Nat
  fs : List Fr
  cap : Nat
  D : DM
  S : Nat → Prop
structure KI where
  k : Nat
  su : Nat
theorem wrap_u {n : Int} {K : Int → Prop} (h : ∀ r, 0 ≤ r → r ≤ 18446744073709551615 → K r) : ∃ r, r = IntKind.u64.wrap n ∧ K r := ⟨_, rfl, h _ (by rw [IntKind.wrap_u64]; omega) (by rw [IntKind.wrap_u64]; omega)⟩
theorem rem_u {a : Int} {d : Nat} {K : Int → Prop} (h0 : 0 ≤ a) (hd : 0 < d) (h : ∀ q : Nat, q < d → K (q : Int)) : ∃ r, r = a.tmod (d : Int) ∧ K r := by
  have hd' : (d : Int) ≠ 0 := by omega
  have h1 := Int.emod_nonneg a hd'
  have h2 := Int.emod_lt_of_pos a (show (0 : Int) < d by omega)
  refine ⟨_, rfl, ?_⟩
  rw [Int.tmod_eq_emod_of_nonneg h0, show a % (d : Int) = ((a % (d : Int)).toNat : Nat) by omega]
  exact h _ (by omega)
theorem LgK.addX {L : List FT} {i su : Nat} {fs fs' : List Fr} {cap cap' : Nat} {D D' : DM} {N : Int} (h : LgK (L.map toX) i su fs cap D N) {y : FT} (hy : L[i]? = some y) (hi : i < 90) {nz : Int} {pz : ByteArray} (hn : nz = num10 y.1) (hp : pz = pgS 232 y.2.1) {e : Int} (ha : (e, fs', D') = addL fs D nz pz y.2.2.1) (hc : fs'.length ≤ cap') :
    (e = 0 → LgK (L.map toX) (i + 1) su fs' cap' D' (N + 2)) ∧ (¬ e = 0 → LgK (L.map toX) i su fs' cap' D' (N + 2)) := by
  subst hn; subst hp
  exact h.add (x_at hy) (toX_ok y) hi ha hc
structure KSR (L : List FT) (k : KS) : Prop where
  le : k.i ≤ 40
  lg : LgK (L.map toX) k.i k.su k.fs k.cap k.D (3 * k.i + 1)
structure KIR (L : List FT) (i : Nat) (k : KI) : Prop where
  le : k.k ≤ i + 1
  su : k.su = supC (L.map toX) k.k
attribute [local irreducible] numOf fixedL bytesOf strOf strEq strLt sfrom closeS closeE writeD sizeD syncD cutD dropD readD topS sumS sumL rightR lastM readL openL trimR addL kindL lsyncL getL lbackL lendL pgS num10 wantS toX sortK supC armD onD offD newD
theorem cvLogKeepsW1 {p : Prop} (h : p := by have nw := True.intro; (repeat' (first | exact True.intro | (with_reducible exact rfl) | (with_reducible exact AbsLe.refl) | (guard_target =~ @Eq Nat _ _; first | exact rfl | omega) | (guard_target =~ List.map _ _ = []; exact rfl) | (first | (guard_target =~ @Eq (List Value) _ _; exact rfl) | (guard_target =~ @Eq Nat _ _; rw [List.length_take]; omega) | exact covP_take (n * 4) (covL_of (take_fts L n) (flat_bind (f := ftv) (fun _ => rfl) _)) | exact covL_of rfl (flat_bind (f := frv) (fun _ => rfl) _) | exact covL_of rfl (flat_bind (f := ftv) (fun _ => rfl) _) | exact covL_of rfl (flat_map (fun _ => rfl) _) | first | exact covL_still rfl hvs | exact covL_still rfl (still_map (fun _ => rfl) _) | exact covL_still rfl (still_map ro_still _) | (apply covL_set <;> (try clear nw) <;> have nw := True.intro) | exact congrArg (Value.int _) (by (try dsimp only); omega)) | (exact congrArg (Value.int _) (by omega)) | (exact covL_flat (flat_map (fun _ => rfl) _)) | (exact covL_flat flat_nil) | (refine covP_all ?_; (try clear nw); have nw := True.intro) | (refine covL_each ?_; (try clear nw); have nw := True.intro) | (refine ⟨?_, ?_⟩ <;> (try clear nw) <;> have nw := True.intro) | (guard_hyp nw : True; ((conv => whnf) <;> clear nw)))); (first | done | fail)) : p := h
theorem rnLogKeepsW2 {p : Prop} (h : p := by refine ⟨?_, ?_, ?_⟩; (first | apply rR_tuple | apply rR_one rfl | exact rfl); all_goals (repeat' (first | (with_reducible (first | exact relH_nil | apply rn_lst | apply rn_own | apply rn_mp | apply rn_row | apply rn_abs | exact wo_nil)) | apply wo_keep rfl | apply wo_drop rfl | exact relH_nil | exact r1_flat rfl | exact r0_flat rfl | exact rl_nil | exact wo_nil | exact bk_old rfl | exact bk_new rfl | exact bk_nil rfl | apply rl_cons | (first | exact relL_flat (flat_bind (f := frv) (fun _ => rfl) _) | exact relL_flat (flat_bind (f := ftv) (fun _ => rfl) _) | exact relL_flat (flat_map (fun _ => rfl) _) | first | exact relL_still hvs | exact relL_still (still_map (fun _ => rfl) _) | exact relL_still (still_map ro_still _) | exact relL_flat (flat_map (fun _ => rfl) _) | apply relL_set) | exact relL_flat (flat_map (fun _ => rfl) _) | exact relL_flat flat_nil | apply relL_to | apply rn_lst | apply rn_own | apply rn_mp | apply rn_row | apply relH_view rfl | apply relH_lview rfl | apply relH_fact rfl | exact r1_rig | exact r0_rig | exact r1_rigs | exact r0_rigs | apply wo_keep rfl | apply wo_drop rfl | apply r1_agg | apply rn_ptr | apply rn_slice | apply rn_slice0 | apply rn_iface | apply rn_map | apply rn_ifacem | apply r0_map | apply r0_ifacem | apply r0_ptr | apply r0_slice | apply r0_slice0 | apply r0_iface)); (first | done | fail)) : p := h
set_option maxRecDepth 100000 in
set_option maxHeartbeats 8000000 in
theorem logKeeps_c (L : List FT) (cap : Nat) (cut : Int) (F : List Int) (capf : Nat) (hcut : -9223372036854775808 ≤ cut ∧ cut ≤ 9223372036854775807) (hL : ∀ y ∈ L, 0 ≤ y.2.1 ∧ y.2.1 ≤ 255) (hl : L.length ≤ cap) (hcap : cap ≤ 4611686018427387904) (hF : F.length ≤ 4611686018427387904) :
    CallOb Tryz.prog 4 [mslice 0 L.length cap, iv cut, mslice 1 F.length capf] [(0, .lview (L.flatMap ftv)), (1, .lview (F.map iv))] 2 (fun v hh m => ∃ z : Bool, z = true ∧ v = .bool z ∧ hh = [] ∧ m = 2) := by
  refine call_spec tabOk mixed Tryz.call4 Tryz.func4 rfl [] (fun z : Bool => z = true) (fun z => .bool z) (fun _ => []) (fun _ => 2) ?_ ?_
  · exact (Nat.le_of_ble_eq_true rfl)
  (repeat' ((try (conv => whnf)); first | (guard_target =~ ∃ (_ : Value), ∃ (_ : HP), ∃ (_ : HP), _; refine ⟨_, _, _, rnLogKeepsW2, ?_⟩; (try (dsimp only [Nat.reduceAdd, List.cons_append, List.nil_append]))) | (guard_target =~ CallOb _ 7 _ _ _ _; refine call_q awakeL_c [] cvLogKeepsW1 (by rfl) (by rfl) (by rfl) (fun v h1 n1 hp => ?_); obtain ⟨_, rfl, rfl, rfl, rfl⟩ := hp; (try (dsimp only [Nat.reduceAdd, List.cons_append, List.nil_append]))) | (guard_target =~ CallOb _ 11 _ _ _ _; refine call_q (new_c 200 (by decide)) [] cvLogKeepsW1 (by rfl) (by rfl) (by rfl) (fun v h1 n1 hp => ?_); obtain ⟨D0, S0, hD0, rfl, rfl, rfl⟩ := hp; have k0 : D0.OkN 0 := hD0 ▸ new_okN 200; have h00 : (openL D0).1.1 = 0 := (by rw [(up_start hD0 (by decide)).1]); (try (dsimp only [Nat.reduceAdd, List.cons_append, List.nil_append]))) | (guard_target =~ CallOb _ 15 _ _ _ _; guard_hyp k7 : DM.OkN _ _; refine call_q (lopen_c S7 D7 k7 (by decide) h07) [(0, some 2)] cvLogKeepsW1 (by rfl) (by rfl) (by rfl) (fun v h1 n1 hp => ?_); obtain ⟨⟨⟨m8, f8, c8, T8, D8⟩, e8⟩, hx8, rfl, rfl, rfl⟩ := hp; dsimp only at hx8; obtain ⟨ho8, hc8, rfl, he8⟩ := hx8; obtain ⟨n, hn1, hn2, hn3, R8⟩ := hop ho8 hc8; clear hop; have hl8 := R8.len; rw [List.length_take, List.length_map] at hl8; have hl9 : f8.length = n := (by omega); clear hl8; (try (dsimp only [Nat.reduceAdd, List.cons_append, List.nil_append]))) | (guard_target =~ CallOb _ 15 _ _ _ _; refine call_q (lopen_c S0 D0 k0 (by decide) h00) [(0, some 2)] cvLogKeepsW1 (by rfl) (by rfl) (by rfl) (fun v h1 n1 hp => ?_); obtain ⟨⟨⟨m1, f1, c1, T1, D1⟩, e1⟩, hx1, rfl, rfl, rfl⟩ := hp; dsimp only at hx1; obtain ⟨ho1, hc1, rfl, he1⟩ := hx1; have R1 := LgR.start hD0 (by decide) ho1 hc1; have mk1 : 1 = 1 := rfl; (try (dsimp only [Nat.reduceAdd, List.cons_append, List.nil_append]))) | (guard_target =~ ∃ r, r = IntKind.wrap .u64 _ ∧ _; refine wrap_u (fun r hr0 hr1 => ?_)) | (refine rem_u (d := 90) (by omega) (by omega) (fun q hq => ?_)) | (guard_target =~ CallOb _ 26 _ _ _ _; guard_hyp k6 : DM.OkN _ _; refine call_q (arm_c S6 D6 (up_ok k6 (by decide)) 0 0 0 (by decide)) [(0, some 2)] cvLogKeepsW1 (by rfl) (by rfl) (by rfl) (fun v h1 n1 hp => ?_); obtain ⟨_, D7, S7, hD7, rfl, rfl, rfl⟩ := hp; obtain ⟨_, _, k7, h07, hop⟩ := hT.on F hD5 hD6 hD7; have hll := hT.keep.le; rw [List.length_map] at hll; (try (dsimp only [Nat.reduceAdd, List.cons_append, List.nil_append]))) | (guard_target =~ CallOb _ 26 _ _ _ _; guard_hyp mk1 : 1 = 1; refine call_q (arm_c T1 D1 (up_ok R1.ok (by decide)) (1 + (q : Nat)) 2 0 (by omega)) [(0, some 2)] cvLogKeepsW1 (by rfl) (by rfl) (by rfl) (fun v h1 n1 hp => ?_); clear mk1; obtain ⟨_, D2, S2, hD2, rfl, rfl, rfl⟩ := hp; have K2 := LgK.start (L.map toX) hD0 (by decide) ho1 hc1 (by omega) hD2; (try (dsimp only [Nat.reduceAdd, List.cons_append, List.nil_append]))) | (guard_target =~ LoopOb _ _ _ _ _ _ _ _; guard_hyp hS1 : ec = 0 → _; refine loop_rule tabOk mixed [] 6 (fun k : KI => [(0, mslice 0 L.length cap), (2, mslice 1 F.length capf), (7, ptr 2), (8, ptr 3), (10, iv ((i + 1 : Nat) : Int)), (11, iv (k.su : Nat)), (12, iv (i : Nat)), (13, iv (k.k : Nat))]) (fun k => [(0, .lview (L.flatMap ftv)), (1, .lview (F.map iv)), (2, diskI Sc Dc), (3, .own 99 [ptr 2, mslice 4 fb.length cb, .map (some 5)]), (4, .lst 105 3 cb (fb.flatMap frv)), (5, mpI fb)]) (fun k => i + 1 - k.k) (fun k => KIR L i k) ⟨su, su⟩ ⟨hu2, hu1⟩ ⟨[(0, some 0), (1, some 1), (2, some 2), (3, some 3), (4, some 36), (5, some 37)], Sub.q cvLogKeepsW1 (by rfl) (by rfl)⟩ (fun k hk => ?_)) | (guard_target =~ LoopOb _ _ _ _ _ _ _ _; first | (guard_hyp k : KS; fail) | (guard_hyp fa : List Fr; fail) | (refine loop_rule tabOk mixed [] 6 (fun k : KS => [(0, mslice 0 L.length cap), (2, mslice 1 F.length capf), (7, ptr 2), (8, ptr 3), (10, iv (k.i : Nat)), (11, iv (k.su : Nat)), (12, iv (k.i : Nat))]) (fun k => [(0, .lview (L.flatMap ftv)), (1, .lview (F.map iv)), (2, diskI k.S k.D), (3, .own 99 [ptr 2, mslice 4 k.fs.length k.cap, .map (some 5)]), (4, .lst 105 3 k.cap (k.fs.flatMap frv)), (5, mpI k.fs)]) (fun k => 40 - k.i) (fun k => KSR L k) ⟨0, 0, f1, c1, D2, S2⟩ ⟨Nat.zero_le _, K2.mono (by dsimp only; omega)⟩ ⟨[(0, some 0), (1, some 1), (2, some 2), (3, some 32), (4, some 33), (5, some 34)], Sub.q cvLogKeepsW1 (by rfl) (by rfl)⟩ (fun k hk => ?_))) | (guard_hyp k : KS; rcases k with ⟨i, su, fa, ca, Da, Sa⟩; have hki := hk.le; have hK := hk.lg; clear hk; dsimp only at hki hK ⊢; have hle := hK.keep.le; rw [List.length_map] at hle) | (guard_hyp k : KI; rcases k with ⟨k, sv⟩; have hkk := hk.le; have hks := hk.su; clear hk; dsimp only at hkk hks ⊢) | (guard_target =~ extH _ _ _ ∧ _; refine ⟨by (repeat' ((try (conv => whnf)); first | exact True.intro | exact trivial | (refine ⟨rfl, ?_⟩))); (first | done | fail), ?_⟩) | (guard_target =~ RegOb _ _ _ 13 _ _ _ _ _; refine reg_hold tabOk mixed [2, 3, 4, 5] [(0, true), (1, true), (2, true), (3, true), (4, true), (6, true), (7, true), (8, true), (9, true), (10, true), (12, true), (13, true), (14, true), (15, true), (16, true), (5, false), (11, false), (1017, false), (18, true)] (by kernel_rfl) ?_) | (guard_target =~ CallOb _ 28 _ _ _ _; refine call_q (number_c y) [] cvLogKeepsW1 (by rfl) (by rfl) (by rfl) (fun v h1 n1 hp => ?_); obtain ⟨nz, hnz, rfl, rfl, rfl⟩ := hp; (try (dsimp only [Nat.reduceAdd, List.cons_append, List.nil_append]))) | (guard_target =~ CallOb _ 29 _ _ _ _; refine call_q (lpage_c y.2.1 hy8) [] cvLogKeepsW1 (by rfl) (by rfl) (by rfl) (fun v h1 n1 hp => ?_); obtain ⟨pz, hpz, rfl, rfl, rfl⟩ := hp; (try (dsimp only [Nat.reduceAdd, List.cons_append, List.nil_append]))) | (guard_target =~ CallOb _ 27 _ _ _ _; refine call_q (ladd_c fa ca Sa Da hK.ok (by omega) hK.cap (by rw [hK.len]; omega) hK.u nz pz y.2.2.1) [(0, some 3), (1, some 2), (2, some 4), (3, some 5)] cvLogKeepsW1 (by rfl) (by rfl) (by rfl) (fun v h1 n1 hp => ?_); obtain ⟨⟨⟨mb, fb, cb, Sb, Db⟩, eb⟩, hxb, rfl, rfl, rfl⟩ := hp; dsimp only at hxb; obtain ⟨hab, hcb, rfl⟩ := hxb; obtain ⟨hA1, hA2⟩ := hK.addX hy (by omega) hnz hpz hab hcb; (try (dsimp only [Nat.reduceAdd, List.cons_append, List.nil_append]))) | (guard_target =~ CallOb _ 30 _ _ _ _; have hB := hA1 (by assumption); refine call_q (lsync_c (lastM fb) fb cb Sb Db hB.ok (by omega)) [(0, some 3), (1, some 2), (2, some 36), (3, some 37)] cvLogKeepsW1 (by rfl) (by rfl) (by rfl) (fun v h1 n1 hp => ?_); obtain ⟨⟨ec, Dc, Sc⟩, hyc, rfl, rfl, rfl⟩ := hp; dsimp only at hyc; obtain ⟨hS1, hS2⟩ := hB.sync hyc; obtain ⟨hu1, hu2⟩ := hB.sup; (try (dsimp only [Nat.reduceAdd, List.cons_append, List.nil_append]))) | (guard_target =~ CallOb _ 31 _ _ _ _; (first | (guard_hyp hS2 : ¬ ec = 0 → _; have hT := (hS2 (by assumption)).mono (N' := 150) (by omega); refine call_q (offd_c Sc Dc (up_ok hT.ok (by decide))) [(0, some 2)] cvLogKeepsW1 (by rfl) (by rfl) (by rfl) (fun v h1 n1 hp => ?_)) | (guard_hyp hA2 : ¬ eb = 0 → _; have hT := (hA2 (by assumption)).mono (N' := 150) (by omega); refine call_q (offd_c Sb Db (up_ok hT.ok (by decide))) [(0, some 2)] cvLogKeepsW1 (by rfl) (by rfl) (by rfl) (fun v h1 n1 hp => ?_)) | (have hT := hK.mono (N' := 150) (by omega); refine call_q (offd_c Sa Da (up_ok hT.ok (by decide))) [(0, some 2)] cvLogKeepsW1 (by rfl) (by rfl) (by rfl) (fun v h1 n1 hp => ?_))); obtain ⟨_, D5, S5, hD5, rfl, rfl, rfl⟩ := hp; have k5 : D5.OkN (150 + 1) := (by rw [hD5]; exact off_okN hT.ok); (try (dsimp only [Nat.reduceAdd, List.cons_append, List.nil_append]))) | (guard_target =~ CallOb _ 32 _ _ _ _; refine call_q (on_c S5 D5 (up_ok k5 (by decide)) F capf (by omega)) [(0, some 2), (1, some 1)] cvLogKeepsW1 (by rfl) (by rfl) (by rfl) (fun v h1 n1 hp => ?_); obtain ⟨_, D6, S6, hD6, rfl, rfl, rfl⟩ := hp; have k6 : D6.OkN (150 + 1) := (by rw [hD6]; exact on_okN k5 F); (try (dsimp only [Nat.reduceAdd, List.cons_append, List.nil_append]))) | (guard_target =~ CallOb _ 33 _ _ _ _; have hU8 : UpR ((L.take n).map toX) f8 D8 := (by rw [List.map_take]; exact R8.up); have hho := holds_c f8 c8 T8 D8 R8.ok (by omega) (L.take n) cap (fun y hy => hL y (List.mem_of_mem_take hy)) hU8 (by omega); (first | refine call_q hho [(0, some 76), (1, some 2), (2, some 77), (3, some 78), (4, some 0)] cvLogKeepsW1 (by rfl) (by rfl) (by rfl) (fun v h1 n1 hp => ?_) | refine call_q hho [(0, some 276), (1, some 2), (2, some 277), (3, some 278), (4, some 0)] cvLogKeepsW1 (by rfl) (by rfl) (by rfl) (fun v h1 n1 hp => ?_) | refine call_q hho [(0, some 336), (1, some 2), (2, some 337), (3, some 338), (4, some 0)] cvLogKeepsW1 (by rfl) (by rfl) (by rfl) (fun v h1 n1 hp => ?_)); obtain ⟨⟨zb, D9, S9⟩, ⟨hz9, _, _⟩, rfl, rfl, rfl⟩ := hp; dsimp only at hz9; (try (dsimp only [Nat.reduceAdd, List.cons_append, List.nil_append]))) | (guard_target =~ CallOb _ 19 _ _ _ _; (with_reducible refine call_inline tabOk mixed Tryz.call19 Tryz.func19 ?_ [] ?_ ?_); exact rfl; exact Nat.le_of_ble_eq_true rfl) | (guard_target =~ ∃ (_ : Nat), _ ∧ _; first | refine ⟨k, rfl, by omega, ?_⟩ | refine ⟨i, rfl, by omega, ?_⟩ | refine ⟨n - 1, by omega, by omega, ?_⟩) | (guard_hyp k : Nat; obtain ⟨yk, hyk⟩ : ∃ y, L[k]? = some y := ⟨_, List.getElem?_eq_getElem (by omega)⟩; refine onS_in (v := .bool yk.2.2.1) (by show (L.flatMap ftv)[0 + k * 4 + 2]? = _; rw [Nat.zero_add]; exact cell_ft hyk (by decide) rfl) ?_) | (guard_hyp y : FT; first | refine onS_in (v := .int .u8 y.2.1) (by show (L.flatMap ftv)[0 + i * 4 + 1]? = _; rw [Nat.zero_add]; exact cell_ft hy (by decide) rfl) ?_ | refine onS_in (v := .bool y.2.2.1) (by show (L.flatMap ftv)[0 + i * 4 + 2]? = _; rw [Nat.zero_add]; exact cell_ft hy (by decide) rfl) ?_ | refine onS_in (v := .bool y.2.2.2) (by show (L.flatMap ftv)[0 + i * 4 + 3]? = _; rw [Nat.zero_add]; exact cell_ft hy (by decide) rfl) ?_) | (obtain ⟨y, hy⟩ : ∃ y, L[i]? = some y := ⟨_, List.getElem?_eq_getElem (by omega)⟩; have hy8 := hL y (List.mem_of_getElem? hy); refine onS_in (sub_flat (f := ftv) (n := 4) (fun _ => rfl) hy (by omega)) ?_) | (obtain ⟨yn, hyn⟩ : ∃ y, L[n - 1]? = some y := ⟨_, List.getElem?_eq_getElem (by omega)⟩; refine onS_in (v := .bool yn.2.2.1) (by show (L.flatMap ftv)[0 + (n - 1) * 4 + 2]? = _; rw [Nat.zero_add]; exact cell_ft hyn (by decide) rfl) ?_) | (with_reducible refine chk_in (Nat.ble_eq_true_of_le (by omega)) ?_) | (with_reducible refine ifB_in ?_ ?_ <;> intro hb <;> (try simp only [decide_eq_true_eq, decide_eq_false_iff_not, Int.not_lt, Int.not_le, ne_eq, Decidable.not_not, Bool.not_eq_true', Bool.not_eq_false', gt_iff_lt, ge_iff_le] at hb) <;> (try (exfalso; omega))) | (with_reducible refine ⟨_, w64b _, ?_⟩) | (with_reducible refine ⟨_, w64 (by omega) (by omega), ?_⟩) | (with_reducible refine ⟨_, wu64 (by omega) (by omega), ?_⟩) | (with_reducible refine ⟨_, wu8 (by omega) (by omega), ?_⟩) | (with_reducible refine ⟨_, w64 (by (simp only [size_sfrom, ByteArray.size_extract, ByteArray.size_append, strOf_size, fixedL_length, lit_size, List.size_toArray, List.length_cons, List.length_nil, List.length_append, List.length_replicate]; omega)) (by (simp only [size_sfrom, ByteArray.size_extract, ByteArray.size_append, strOf_size, fixedL_length, lit_size, List.size_toArray, List.length_cons, List.length_nil, List.length_append, List.length_replicate]; omega)), ?_⟩) | (with_reducible refine ⟨_, rfl, ?_⟩) | (with_reducible refine ⟨rfl, ?_⟩) | (intro cap) | (with_reducible refine ⟨trivial, ?_⟩) | (guard_target =~ (planChk _ _ = true) ∧ _; refine ⟨by kernel_rfl, ?_⟩) | (guard_target =~ (_ ∧ _) ∧ _; refine ⟨by ((repeat (first | exact trivial | refine ⟨rfl, ?_⟩)); (first | done | fail)), ?_⟩) | (refine ⟨by omega, ?_⟩) | (refine ⟨by (simp only [size_sfrom, ByteArray.size_extract, ByteArray.size_append, strOf_size, fixedL_length, lit_size, List.size_toArray, List.length_cons, List.length_nil, List.length_append, List.length_replicate]; omega), ?_⟩) | (refine ⟨0, rfl, ?_⟩) | (refine ⟨1, rfl, ?_⟩) | (refine ⟨2, rfl, ?_⟩) | (refine ⟨3, rfl, ?_⟩) | (refine ⟨4, rfl, ?_⟩) | (refine ⟨5, rfl, ?_⟩) | (refine cell_at1 (by assumption) ?_) | (refine cell_in1 (by omega) (fun x hx => ?_)) | fail)) <;> (try (conv => whnf))
  all_goals first
    | (exfalso; omega)
    | (exfalso; have hq := commit_at hyn; rw [hn3 (by omega), hb] at hq; exact absurd hq (by decide))
    | (guard_hyp hyk : L[k]? = some yk; guard_hyp hb : _ = true; (refine Again.go ((⟨k + 1, k + 1⟩ : KI)) ?_ (by (try dsimp only); omega) [(0, some 0), (1, some 1), (2, some 2), (3, some 3), (4, some 4), (5, some 5)] (Sub.q cvLogKeepsW1 (by rfl) (by rfl))); exact ⟨by dsimp only; omega, by dsimp only; rw [sup_step (commit_at hyk), if_pos hb]⟩)
    | (guard_hyp hyk : L[k]? = some yk; guard_hyp hb : _ = false; (refine Again.go ((⟨k + 1, sv⟩ : KI)) ?_ (by (try dsimp only); omega) [(0, some 0), (1, some 1), (2, some 2), (3, some 3), (4, some 4), (5, some 5)] (Sub.q cvLogKeepsW1 (by rfl) (by rfl))); exact ⟨by dsimp only; omega, by dsimp only; rw [sup_step (commit_at hyk), hb]; exact hks⟩)
    | (guard_hyp hks : sv = _; obtain rfl : k = i + 1 := (by omega); (refine Again.go ((⟨i + 1, sv, fb, cb, Dc, Sc⟩ : KS)) ?_ (by (try dsimp only); omega) [(0, some 0), (1, some 1), (2, some 2), (3, some 3), (4, some 4), (5, some 5)] (Sub.q cvLogKeepsW1 (by rfl) (by rfl))); exact ⟨by dsimp only; omega, by dsimp only; rw [hks]; exact (hS1 (by assumption)).mono (by omega)⟩)
    | (guard_hyp hA1 : eb = 0 → _; (refine Again.go ((⟨i + 1, su, fb, cb, Db, Sb⟩ : KS)) ?_ (by (try dsimp only); omega) [(0, some 0), (1, some 1), (2, some 2), (3, some 3), (4, some 36), (5, some 37)] (Sub.q cvLogKeepsW1 (by rfl) (by rfl))); exact ⟨by dsimp only; omega, (hA1 (by assumption)).mono (by dsimp only; omega)⟩)
    | ((refine Ends.go (zb) ?_ [] (Fit.q cvLogKeepsW1 (by rfl) (by rfl))); exact hz9)
namespace logKeeps
theorem walk (v : Value) (cap : Nat) (L : List FT) (a1 : Int) (v2 : Value) (capf : Nat) (F : List Int) (w : World)
    (S : SlcAt w v L.length cap (L.flatMap (fun y : Int × Int × Bool × Bool => [.int .i64 y.1, .int .u8 y.2.1, .bool y.2.2.1, .bool y.2.2.2]))) (hq : L.length ≤ cap) (hb : cap ≤ 140737488351232) (hw : ∀ y ∈ L, (fun y : Int × Int × Bool × Bool => (Lit.int .i64 y.1).wf = true ∧ (Lit.int .u8 y.2.1).wf = true) y) (w1 : (Lit.int .i64 a1).wf = true)
    (S2 : SlcAt w v2 F.length capf (F.flatMap (fun y : Int => [.int .i64 y]))) (q2 : F.length ≤ capf) (b2 : capf ≤ 140737488351232) (w2 : ∀ y ∈ F, (fun y : Int => (Lit.int .i64 y).wf = true) y) :
    Calls Tryz.prog 4 #[v, .int .i64 a1, v2] w fun e w' => e = .returned (.bool true) ∧ Below w.heap.size w w' := by
  rw [flatMap_one] at S2
  obtain ⟨m, _, H, hm, hv⟩ := (HRel.start w).see (fun i it e => by cases e) S (flat_bind (f := ftv) (fun _ => rfl) L)
  obtain ⟨m2, l2, H2, hm2, hv2⟩ := H.see hm S2 (flat_map (fun _ => rfl) F)
  exact law_of (cs := [v, .int .i64 a1, v2]) (logKeeps_c L cap a1 F capf (bounds_i64 w1) (fun y hy => bounds_u8 (hw y hy).2) hq (by omega) (by omega)) (H2.sub_of (h' := [(0, .lview (L.flatMap ftv)), (1, .lview (F.map iv))]) fun i it e => by
    have := lkH_mem e
    simp only [List.mem_cons, Prod.mk.injEq, List.not_mem_nil, or_false] at this
    rcases this with ⟨rfl, rfl⟩ | ⟨rfl, rfl⟩ <;> rfl) ⟨(VR.of0 rfl).2 (hv.mono l2), VR.same rfl, (VR.of0 rfl).2 hv2, trivial⟩ (fun v hh m ⟨_, hz, h, _⟩ => by rw [h, hz])
end logKeeps
end Go.Proofs.YtcojbjakopkfbaaGreat
