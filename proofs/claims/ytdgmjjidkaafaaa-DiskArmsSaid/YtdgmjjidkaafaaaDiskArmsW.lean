/- The law that a fault is met where it was armed: its walk. -/
import Derived.Test.YtdgmjjidkaafaaaDiskAwake
import Derived.Test.YtdgmjjidkaafaaaDiskBytes
namespace Go.Proofs.Ytdgmjjidkaafaaa
open Go.RowKit
set_option linter.unusedSimpArgs false
set_option linter.unusedVariables false
/-- The arming behind so many operations. -/
def armP (a m : Int) (i : Nat) : Int × Int := if (i : Int) < a then (a - i, m) else if (i : Int) < a + m then (1, m - (i + 1 - a)) else (0, 0)
theorem armP_0 {a m : Int} (h : 1 ≤ a) : armP a m 0 = (a, m) := by unfold armP; rw [if_pos (by omega)]; simp
/-- The disk behind so many operations since the arming. -/
structure ArmI (a m : Int) (i : Nat) (D : DM) : Prop where
  k : ∃ c : Int, D.k = ⟨100, false, 1 + i, 0, (armP a m i).1, 1, c⟩ ∧ ((armP a m i).1 ≠ 0 → c = (armP a m i).2) ∧ -9223372036854775808 ≤ c ∧ c ≤ 9223372036854775807
  f : ∃ X, findF D.fs fN = some X
  fs : D.fs.Ok
theorem ArmI.okN {a m : Int} {i : Nat} {D : DM} (h : ArmI a m i D) (ha : 1 ≤ a ∧ a ≤ 20) (hm : 0 ≤ m ∧ m ≤ 5) : D.OkN (1 + i) := by
  obtain ⟨⟨c, hk, _, h1, h2⟩, _, hf⟩ := h
  refine ⟨?_, hf⟩
  rw [hk]
  have : 0 ≤ (armP a m i).1 ∧ (armP a m i).1 ≤ 20 := by
    unfold armP
    split
    · dsimp only; omega
    · split <;> (dsimp only; omega)
  exact ⟨by dsimp only; omega, by dsimp only; omega, by dsimp only; omega, by dsimp only; omega, by dsimp only; omega, by dsimp only; omega⟩
theorem ArmI.sync {a m : Int} {i : Nat} {D : DM} (h : ArmI a m i D) (ha : 1 ≤ a ∧ a ≤ 20) (hm : 0 ≤ m ∧ m ≤ 5) {e : Int} {D' : DM} (hs : (e, D') = syncD D fN) :
    (e = 11 ∨ e = 0) ∧ (e = 11 ↔ a ≤ i + 1 ∧ (i : Int) + 1 ≤ a + m) ∧ ArmI a m (i + 1) D' := by
  have hok := h.okN ha hm
  have hok2 := sync_okN hok fN
  rw [← hs] at hok2
  obtain ⟨⟨c, hk, hc, h1, h2⟩, ⟨X, hX⟩, hf⟩ := h
  obtain ⟨k, fs⟩ := D
  dsimp only at hk hX hf
  subst hk
  unfold syncD foundD at hs
  dsimp only at hs
  have hb : begS ⟨100, false, 1 + i, 0, (armP a m i).1, 1, c⟩ fN true = if (armP a m i).1 = 0 then (0, ⟨100, false, 1 + i + 1, 0, (armP a m i).1, 1, c⟩) else if 1 < (armP a m i).1 then (0, ⟨100, false, 1 + i + 1, 0, (armP a m i).1 - 1, 1, c⟩) else if 0 < c then (11, ⟨100, false, 1 + i + 1, 0, (armP a m i).1, 1, c - 1⟩) else (11, ⟨100, false, 1 + i + 1, 0, 0, 1, c⟩) := by
    unfold begS
    rw [if_neg (by rw [f_good]; simp)]
    dsimp only
    rw [if_neg (by decide)]
    repeat' split
    all_goals first | rfl | omega
  have next : armP a m (i + 1) = if (i : Int) + 1 < a then (a - (i + 1), m) else if (i : Int) + 1 < a + m then (1, m - (i + 1 + 1 - a)) else (0, 0) := by unfold armP; rfl
  have cur : armP a m i = if (i : Int) < a then (a - i, m) else if (i : Int) < a + m then (1, m - (i + 1 - a)) else (0, 0) := rfl
  have fin : ∀ (e0 : Int) (c0 : Int) (a0 : Int), (e0 = 0 ∨ e0 = 11) → begS ⟨100, false, 1 + i, 0, (armP a m i).1, 1, c⟩ fN true = (e0, ⟨100, false, 1 + i + 1, 0, a0, 1, c0⟩) → a0 = (armP a m (i + 1)).1 → ((armP a m (i + 1)).1 ≠ 0 → c0 = (armP a m (i + 1)).2) → -9223372036854775808 ≤ c0 ∧ c0 ≤ 9223372036854775807 → (e0 = 11 ↔ a ≤ i + 1 ∧ (i : Int) + 1 ≤ a + m) →
      (e = 11 ∨ e = 0) ∧ (e = 11 ↔ a ≤ i + 1 ∧ (i : Int) + 1 ≤ a + m) ∧ ArmI a m (i + 1) D' := by
    intro e0 c0 a0 he hbe ha0 hc0 hc1 hiff
    rw [hbe, hX] at hs
    dsimp only at hs
    have hops : (1 + (i : Int) + 1) = 1 + ((i + 1 : Nat) : Int) := by omega
    rcases he with rfl | rfl
    · rw [if_neg (by simp)] at hs
      cases hs
      refine ⟨.inr rfl, hiff, ⟨c0, by rw [ha0, hops], hc0, hc1⟩, ⟨syncF X, by rw [find_put hf.sorted, if_pos rfl]; rfl⟩, hok2.fs⟩
    · rw [if_pos (by simp)] at hs
      cases hs
      refine ⟨.inl rfl, hiff, ⟨c0, by rw [ha0, hops], hc0, hc1⟩, ⟨X, hX⟩, hok2.fs⟩
  rw [hb] at fin
  rcases Int.lt_or_le (i : Int) a with q1 | q1
  · rw [if_pos q1] at cur
    rw [cur] at fin hc
    dsimp only at fin hc
    have hc := hc (by omega)
    subst hc
    rw [if_neg (by omega)] at fin
    rcases Int.lt_or_le ((i : Int) + 1) a with q2 | q2
    · rw [if_pos q2] at next
      rw [if_pos (by omega)] at fin
      rw [next] at fin
      exact fin 0 c _ (.inl rfl) rfl (by dsimp only; omega) (fun _ => rfl) ⟨h1, h2⟩ ⟨fun h => (by cases h), fun h => (by omega)⟩
    · rw [if_neg (by omega)] at next
      rw [if_neg (by omega)] at fin
      rcases Int.lt_or_le 0 c with q3 | q3
      · rw [if_pos q3] at fin
        rw [if_pos (by omega)] at next
        rw [next] at fin
        exact fin 11 (c - 1) _ (.inr rfl) rfl (by dsimp only; omega) (fun _ => by dsimp only; omega) (by omega) ⟨fun _ => (by omega), fun _ => rfl⟩
      · rw [if_neg (by omega)] at fin
        rw [if_neg (by omega)] at next
        rw [next] at fin
        exact fin 11 c 0 (.inr rfl) rfl rfl (fun h => absurd rfl h) ⟨h1, h2⟩ ⟨fun _ => (by omega), fun _ => rfl⟩
  · rw [if_neg (by omega)] at cur next
    rcases Int.lt_or_le (i : Int) (a + m) with q2 | q2
    · rw [if_pos q2] at cur
      rw [cur] at fin hc
      dsimp only at fin hc
      have hc := hc (by decide)
      subst hc
      rw [if_neg (by decide), if_neg (by decide)] at fin
      rcases Int.lt_or_le ((i : Int) + 1) (a + m) with q3 | q3
      · rw [if_pos q3] at next
        rw [if_pos (by omega), next] at fin
        exact fin 11 _ _ (.inr rfl) rfl rfl (fun _ => by dsimp only; omega) (by omega) ⟨fun _ => (by omega), fun _ => rfl⟩
      · rw [if_neg (by omega)] at next
        rw [if_neg (by omega), next] at fin
        exact fin 11 _ 0 (.inr rfl) rfl rfl (fun h => absurd rfl h) ⟨h1, h2⟩ ⟨fun _ => (by omega), fun _ => rfl⟩
    · rw [if_neg (by omega)] at cur next
      rw [cur] at fin
      dsimp only at fin
      rw [if_pos rfl, next] at fin
      exact fin 0 c 0 (.inl rfl) rfl rfl (fun h => absurd rfl h) ⟨h1, h2⟩ ⟨fun h => (by cases h), fun h => (by omega)⟩
theorem ArmI.bad_write {D : DM} {d : ByteArray} : writeD D ⟨#[]⟩ 0 d = (1, D) := by
  unfold writeD foundD
  rw [beg_bad (.inl (show goodName ⟨#[]⟩ = false by decide))]
  simp
theorem ArmI.bad_cut {D : DM} : cutD D fN (-1) = (1, D) := by
  unfold cutD foundD
  rw [beg_bad (.inr (show decide ((0 : Int) ≤ -1) = false by decide))]
  simp
theorem arm_start : writeD (newD 100) fN 0 (pq 1) = (0, ⟨⟨100, false, 1, 0, 0, 0, 0⟩, [(fN, awX 1)]⟩) := write_new f_good rfl rfl rfl (pgS_size _ _) (by decide) (by decide)
theorem arm_begin {a m : Int} (ha : 1 ≤ a ∧ a ≤ 20) (hm : 0 ≤ m ∧ m ≤ 5) : ArmI a m 0 (armD ⟨⟨100, false, 1, 0, 0, 0, 0⟩, [(fN, awX 1)]⟩ a 1 m) := by
  have h0 := write_okN (new_okN 100) fN 0 (pq 1)
  rw [arm_start] at h0
  refine ⟨⟨m, ?_, fun _ => by rw [armP_0 ha.1], by omega, by omega⟩, ⟨awX 1, find_one⟩, h0.fs⟩
  unfold armD
  dsimp only
  rw [if_pos (.inl rfl), armP_0 ha.1]
  dsimp only
  congr 1
  omega
theorem wrap_u {n : Int} {K : Int → Prop} (h : ∀ r, 0 ≤ r → r ≤ 18446744073709551615 → K r) : ∃ r, r = IntKind.u64.wrap n ∧ K r := ⟨_, rfl, h _ (by rw [IntKind.wrap_u64]; omega) (by rw [IntKind.wrap_u64]; omega)⟩
theorem rem_u {a : Int} {d : Nat} {K : Int → Prop} (h0 : 0 ≤ a) (hd : 0 < d) (h : ∀ q : Nat, q < d → K (q : Int)) : ∃ r, r = a.tmod (d : Int) ∧ K r := by
  refine ⟨_, rfl, ?_⟩
  obtain ⟨b, rfl⟩ := Int.eq_ofNat_of_zero_le h0
  have e : (b : Int).tmod (d : Int) = ((b % d : Nat) : Int) := by rw [Int.tmod_eq_emod_of_nonneg h0]; norm_cast
  rw [e]
  exact h _ (Nat.mod_lt _ hd)
theorem ArmI.opsI {a m : Int} {i : Nat} {D : DM} (h : ArmI a m i D) : D.k.ops = 1 + i := by
  obtain ⟨⟨c, hk, _⟩, _, _⟩ := h
  rw [hk]
structure AI where
  i : Nat
  D : DM
  S : Nat → Prop
attribute [local irreducible] bytesOf strOf strEq strLt sfrom begS pgS awD newD armD
def armB : DM := ⟨⟨100, false, 1, 0, 0, 0, 0⟩, [(fN, awX 1)]⟩
theorem armB_ok : armB.OkN 1 := by
  have h0 := write_okN (new_okN 100) fN 0 (pq 1)
  rwa [arm_start] at h0
theorem wbad_c (S : Nat → Prop) (D : DM) (hD : D.Ok) : CallOb Try.prog 10 [ptr 0, .string ⟨#[]⟩, iv 0, .string (pgS 256 1)] [(0, diskI S D)] 1 (fun v h m => ∃ (a : Int) (S' : Nat → Prop), a = 1 ∧ v = iv a ∧ h = [(0, diskI S' D)] ∧ m = 20) :=
  (write_c S D hD ⟨#[]⟩ 0 (pgS 256 1) (by decide)).mono fun v h m ⟨a, D', S', hr, h1, h2, h3⟩ => by
    rw [ArmI.bad_write] at hr
    cases hr
    exact ⟨_, S', rfl, h1, h2, h3⟩
theorem cbad_c (S : Nat → Prop) (D : DM) (hD : D.Ok) : CallOb Try.prog 14 [ptr 0, .string fN, iv (-1)] [(0, diskI S D)] 1 (fun v h m => ∃ (a : Int) (S' : Nat → Prop), a = 1 ∧ v = iv a ∧ h = [(0, diskI S' D)] ∧ m = 20) :=
  (cut_c S D hD fN (-1) (by decide)).mono fun v h m ⟨a, D', S', hr, h1, h2, h3⟩ => by
    rw [ArmI.bad_cut] at hr
    cases hr
    exact ⟨_, S', rfl, h1, h2, h3⟩
attribute [local irreducible] armB
theorem wr1_c (S : Nat → Prop) : CallOb Try.prog 10 [ptr 0, .string fN, iv 0, .string (pgS 256 1)] [(0, diskI S (newD 100))] 1 (fun v h m => ∃ (a : Int) (S' : Nat → Prop), a = 0 ∧ v = iv a ∧ h = [(0, diskI S' armB)] ∧ m = 20) :=
  (write_c S (newD 100) (up_ok (new_okN 100) (by decide)) fN 0 (pgS 256 1) (by decide)).mono fun v h m ⟨a, D', S', hr, h1, h2, h3⟩ => by
    rw [arm_start] at hr
    cases hr
    exact ⟨_, S', rfl, h1, by unfold armB; exact h2, h3⟩
set_option maxRecDepth 100000 in
set_option maxHeartbeats 4000000 in
theorem diskArms_c (a0 a1 : Int) (L : List Bool) (cap : Nat) (hl : L.length ≤ 4611686018427387904) : CallOb Try.prog 3 [iv a0, iv a1, mslice 0 L.length cap] [(0, .lview (L.map .bool))] 1 (fun v hh m => ∃ z : Bool, z = true ∧ v = .bool z ∧ hh = [] ∧ m = 1) := by
  refine call_spec tabOk mixed Try.call3 Try.func3 rfl [] (fun z : Bool => z = true) (fun z => .bool z) (fun _ => []) (fun _ => 1) ?_ ?_
  · exact (Nat.le_of_ble_eq_true rfl)
  (repeat' ((try (conv => whnf)); first | (guard_target =~ ∃ (_ : Value), ∃ (_ : HP), ∃ (_ : HP), _; refine ⟨_, _, _, (by refine ⟨?_, ?_, ?_⟩; (first | apply rR_tuple | apply rR_one rfl | exact rfl); all_goals (repeat' (first | (with_reducible (first | exact relH_nil | apply rn_lst | apply rn_own | apply rn_mp | apply rn_row | apply rn_abs | exact wo_nil)) | apply wo_keep rfl | apply wo_drop rfl | exact relH_nil | exact r1_flat rfl | exact r0_flat rfl | exact rl_nil | exact wo_nil | exact bk_old rfl | exact bk_new rfl | exact bk_nil rfl | apply rl_cons | (first | exact relL_still hvs | exact relL_still (still_map (fun _ => rfl) _) | exact relL_still (still_map ro_still _) | exact relL_flat (flat_map (fun _ => rfl) _) | apply relL_set) | exact relL_flat (flat_map (fun _ => rfl) _) | exact relL_flat flat_nil | apply relL_to | apply rn_lst | apply rn_own | apply rn_mp | apply rn_row | apply relH_view rfl | apply relH_lview rfl | apply relH_fact rfl | exact r1_rig | exact r0_rig | exact r1_rigs | exact r0_rigs | apply wo_keep rfl | apply wo_drop rfl | apply r1_agg | apply rn_ptr | apply rn_slice | apply rn_slice0 | apply rn_iface | apply rn_map | apply rn_ifacem | apply r0_map | apply r0_ifacem | apply r0_ptr | apply r0_slice | apply r0_slice0 | apply r0_iface)); (first | done | fail)), ?_⟩; (try (dsimp only [Nat.reduceAdd, List.cons_append, List.nil_append]))) | (guard_target =~ CallOb _ 8 _ _ _ _; refine call_q awakeK_c [] (by (repeat' (first | exact True.intro | (with_reducible exact rfl) | (with_reducible exact AbsLe.refl) | (guard_target =~ @Eq Nat _ _; first | exact rfl | omega) | (guard_target =~ List.map _ _ = []; exact rfl) | (first | exact covL_still rfl hvs | exact covL_still rfl (still_map (fun _ => rfl) _) | exact covL_still rfl (still_map ro_still _) | apply covL_set | exact congrArg (Value.int _) (by (try dsimp only); omega)) | (exact congrArg (Value.int _) (by omega)) | (exact covL_flat (flat_map (fun _ => rfl) _)) | (exact covL_flat flat_nil) | (refine covP_all ?_) | (refine covL_each ?_) | (refine ⟨?_, ?_⟩) | ((conv => whnf); (first | exact True.intro | (with_reducible exact rfl) | (with_reducible exact AbsLe.refl) | (guard_target =~ @Eq Nat _ _; first | exact rfl | omega) | (guard_target =~ List.map _ _ = []; exact rfl) | (first | exact covL_still rfl hvs | exact covL_still rfl (still_map (fun _ => rfl) _) | exact covL_still rfl (still_map ro_still _) | apply covL_set | exact congrArg (Value.int _) (by (try dsimp only); omega)) | (exact congrArg (Value.int _) (by omega)) | (exact covL_flat (flat_map (fun _ => rfl) _)) | (exact covL_flat flat_nil) | (refine covP_all ?_) | (refine covL_each ?_) | (refine ⟨?_, ?_⟩) | done)))); (first | done | fail)) (by rfl) (by rfl) (by rfl) (fun v h1 n1 hp => ?_); obtain ⟨_, rfl, rfl, rfl, rfl⟩ := hp; (try (dsimp only [Nat.reduceAdd, List.cons_append, List.nil_append]))) | (guard_target =~ CallOb _ 9 _ _ _ _; refine call_q (new_c 100 (by decide)) [] (by (repeat' (first | exact True.intro | (with_reducible exact rfl) | (with_reducible exact AbsLe.refl) | (guard_target =~ @Eq Nat _ _; first | exact rfl | omega) | (guard_target =~ List.map _ _ = []; exact rfl) | (first | exact covL_still rfl hvs | exact covL_still rfl (still_map (fun _ => rfl) _) | exact covL_still rfl (still_map ro_still _) | apply covL_set | exact congrArg (Value.int _) (by (try dsimp only); omega)) | (exact congrArg (Value.int _) (by omega)) | (exact covL_flat (flat_map (fun _ => rfl) _)) | (exact covL_flat flat_nil) | (refine covP_all ?_) | (refine covL_each ?_) | (refine ⟨?_, ?_⟩) | ((conv => whnf); (first | exact True.intro | (with_reducible exact rfl) | (with_reducible exact AbsLe.refl) | (guard_target =~ @Eq Nat _ _; first | exact rfl | omega) | (guard_target =~ List.map _ _ = []; exact rfl) | (first | exact covL_still rfl hvs | exact covL_still rfl (still_map (fun _ => rfl) _) | exact covL_still rfl (still_map ro_still _) | apply covL_set | exact congrArg (Value.int _) (by (try dsimp only); omega)) | (exact congrArg (Value.int _) (by omega)) | (exact covL_flat (flat_map (fun _ => rfl) _)) | (exact covL_flat flat_nil) | (refine covP_all ?_) | (refine covL_each ?_) | (refine ⟨?_, ?_⟩) | done)))); (first | done | fail)) (by rfl) (by rfl) (by rfl) (fun v h1 n1 hp => ?_); obtain ⟨D, S, rfl, rfl, rfl, rfl⟩ := hp; (try (dsimp only [Nat.reduceAdd, List.cons_append, List.nil_append]))) | (guard_target =~ CallOb _ 11 _ _ _ _; refine call_q (page_c 1 (by decide)) [] (by (repeat' (first | exact True.intro | (with_reducible exact rfl) | (with_reducible exact AbsLe.refl) | (guard_target =~ @Eq Nat _ _; first | exact rfl | omega) | (guard_target =~ List.map _ _ = []; exact rfl) | (first | exact covL_still rfl hvs | exact covL_still rfl (still_map (fun _ => rfl) _) | exact covL_still rfl (still_map ro_still _) | apply covL_set | exact congrArg (Value.int _) (by (try dsimp only); omega)) | (exact congrArg (Value.int _) (by omega)) | (exact covL_flat (flat_map (fun _ => rfl) _)) | (exact covL_flat flat_nil) | (refine covP_all ?_) | (refine covL_each ?_) | (refine ⟨?_, ?_⟩) | ((conv => whnf); (first | exact True.intro | (with_reducible exact rfl) | (with_reducible exact AbsLe.refl) | (guard_target =~ @Eq Nat _ _; first | exact rfl | omega) | (guard_target =~ List.map _ _ = []; exact rfl) | (first | exact covL_still rfl hvs | exact covL_still rfl (still_map (fun _ => rfl) _) | exact covL_still rfl (still_map ro_still _) | apply covL_set | exact congrArg (Value.int _) (by (try dsimp only); omega)) | (exact congrArg (Value.int _) (by omega)) | (exact covL_flat (flat_map (fun _ => rfl) _)) | (exact covL_flat flat_nil) | (refine covP_all ?_) | (refine covL_each ?_) | (refine ⟨?_, ?_⟩) | done)))); (first | done | fail)) (by rfl) (by rfl) (by rfl) (fun v h1 n1 hp => ?_); obtain ⟨_, rfl, rfl, rfl, rfl⟩ := hp; (try (dsimp only [Nat.reduceAdd, List.cons_append, List.nil_append]))) | (guard_target =~ CallOb _ 10 [_, .string ⟨#[102]⟩, _, _] _ _ _; refine call_q (wr1_c S) [(0, some _)] (by (repeat' (first | exact True.intro | (with_reducible exact rfl) | (with_reducible exact AbsLe.refl) | (guard_target =~ @Eq Nat _ _; first | exact rfl | omega) | (guard_target =~ List.map _ _ = []; exact rfl) | (first | exact covL_still rfl hvs | exact covL_still rfl (still_map (fun _ => rfl) _) | exact covL_still rfl (still_map ro_still _) | apply covL_set | exact congrArg (Value.int _) (by (try dsimp only); omega)) | (exact congrArg (Value.int _) (by omega)) | (exact covL_flat (flat_map (fun _ => rfl) _)) | (exact covL_flat flat_nil) | (refine covP_all ?_) | (refine covL_each ?_) | (refine ⟨?_, ?_⟩) | ((conv => whnf); (first | exact True.intro | (with_reducible exact rfl) | (with_reducible exact AbsLe.refl) | (guard_target =~ @Eq Nat _ _; first | exact rfl | omega) | (guard_target =~ List.map _ _ = []; exact rfl) | (first | exact covL_still rfl hvs | exact covL_still rfl (still_map (fun _ => rfl) _) | exact covL_still rfl (still_map ro_still _) | apply covL_set | exact congrArg (Value.int _) (by (try dsimp only); omega)) | (exact congrArg (Value.int _) (by omega)) | (exact covL_flat (flat_map (fun _ => rfl) _)) | (exact covL_flat flat_nil) | (refine covP_all ?_) | (refine covL_each ?_) | (refine ⟨?_, ?_⟩) | done)))); (first | done | fail)) (by rfl) (by rfl) (by rfl) (fun v h1 n1 hp => ?_); obtain ⟨e1, S, he1, rfl, rfl, rfl⟩ := hp; (try (dsimp only [Nat.reduceAdd, List.cons_append, List.nil_append]))) | (guard_target =~ CallOb _ 10 _ _ _ _; refine call_q (wbad_c S D (up_ok (hI.okN (by omega) (by omega)) (by omega))) [(0, some _)] (by (repeat' (first | exact True.intro | (with_reducible exact rfl) | (with_reducible exact AbsLe.refl) | (guard_target =~ @Eq Nat _ _; first | exact rfl | omega) | (guard_target =~ List.map _ _ = []; exact rfl) | (first | exact covL_still rfl hvs | exact covL_still rfl (still_map (fun _ => rfl) _) | exact covL_still rfl (still_map ro_still _) | apply covL_set | exact congrArg (Value.int _) (by (try dsimp only); omega)) | (exact congrArg (Value.int _) (by omega)) | (exact covL_flat (flat_map (fun _ => rfl) _)) | (exact covL_flat flat_nil) | (refine covP_all ?_) | (refine covL_each ?_) | (refine ⟨?_, ?_⟩) | ((conv => whnf); (first | exact True.intro | (with_reducible exact rfl) | (with_reducible exact AbsLe.refl) | (guard_target =~ @Eq Nat _ _; first | exact rfl | omega) | (guard_target =~ List.map _ _ = []; exact rfl) | (first | exact covL_still rfl hvs | exact covL_still rfl (still_map (fun _ => rfl) _) | exact covL_still rfl (still_map ro_still _) | apply covL_set | exact congrArg (Value.int _) (by (try dsimp only); omega)) | (exact congrArg (Value.int _) (by omega)) | (exact covL_flat (flat_map (fun _ => rfl) _)) | (exact covL_flat flat_nil) | (refine covP_all ?_) | (refine covL_each ?_) | (refine ⟨?_, ?_⟩) | done)))); (first | done | fail)) (by rfl) (by rfl) (by rfl) (fun v h1 n1 hp => ?_); obtain ⟨e2, S, he2, rfl, rfl, rfl⟩ := hp; (try (dsimp only [Nat.reduceAdd, List.cons_append, List.nil_append]))) | (guard_target =~ CallOb _ 14 _ _ _ _; refine call_q (cbad_c S D (up_ok (hI.okN (by omega) (by omega)) (by omega))) [(0, some _)] (by (repeat' (first | exact True.intro | (with_reducible exact rfl) | (with_reducible exact AbsLe.refl) | (guard_target =~ @Eq Nat _ _; first | exact rfl | omega) | (guard_target =~ List.map _ _ = []; exact rfl) | (first | exact covL_still rfl hvs | exact covL_still rfl (still_map (fun _ => rfl) _) | exact covL_still rfl (still_map ro_still _) | apply covL_set | exact congrArg (Value.int _) (by (try dsimp only); omega)) | (exact congrArg (Value.int _) (by omega)) | (exact covL_flat (flat_map (fun _ => rfl) _)) | (exact covL_flat flat_nil) | (refine covP_all ?_) | (refine covL_each ?_) | (refine ⟨?_, ?_⟩) | ((conv => whnf); (first | exact True.intro | (with_reducible exact rfl) | (with_reducible exact AbsLe.refl) | (guard_target =~ @Eq Nat _ _; first | exact rfl | omega) | (guard_target =~ List.map _ _ = []; exact rfl) | (first | exact covL_still rfl hvs | exact covL_still rfl (still_map (fun _ => rfl) _) | exact covL_still rfl (still_map ro_still _) | apply covL_set | exact congrArg (Value.int _) (by (try dsimp only); omega)) | (exact congrArg (Value.int _) (by omega)) | (exact covL_flat (flat_map (fun _ => rfl) _)) | (exact covL_flat flat_nil) | (refine covP_all ?_) | (refine covL_each ?_) | (refine ⟨?_, ?_⟩) | done)))); (first | done | fail)) (by rfl) (by rfl) (by rfl) (fun v h1 n1 hp => ?_); obtain ⟨e3, S, he3, rfl, rfl, rfl⟩ := hp; (try (dsimp only [Nat.reduceAdd, List.cons_append, List.nil_append]))) | (guard_target =~ CallOb _ 12 _ _ _ _; refine call_q (arm_c S armB (up_ok armB_ok (by decide)) (1 + (q : Nat)) 1 (p : Nat) (by omega)) [(0, some _)] (by (repeat' (first | exact True.intro | (with_reducible exact rfl) | (with_reducible exact AbsLe.refl) | (guard_target =~ @Eq Nat _ _; first | exact rfl | omega) | (guard_target =~ List.map _ _ = []; exact rfl) | (first | exact covL_still rfl hvs | exact covL_still rfl (still_map (fun _ => rfl) _) | exact covL_still rfl (still_map ro_still _) | apply covL_set | exact congrArg (Value.int _) (by (try dsimp only); omega)) | (exact congrArg (Value.int _) (by omega)) | (exact covL_flat (flat_map (fun _ => rfl) _)) | (exact covL_flat flat_nil) | (refine covP_all ?_) | (refine covL_each ?_) | (refine ⟨?_, ?_⟩) | ((conv => whnf); (first | exact True.intro | (with_reducible exact rfl) | (with_reducible exact AbsLe.refl) | (guard_target =~ @Eq Nat _ _; first | exact rfl | omega) | (guard_target =~ List.map _ _ = []; exact rfl) | (first | exact covL_still rfl hvs | exact covL_still rfl (still_map (fun _ => rfl) _) | exact covL_still rfl (still_map ro_still _) | apply covL_set | exact congrArg (Value.int _) (by (try dsimp only); omega)) | (exact congrArg (Value.int _) (by omega)) | (exact covL_flat (flat_map (fun _ => rfl) _)) | (exact covL_flat flat_nil) | (refine covP_all ?_) | (refine covL_each ?_) | (refine ⟨?_, ?_⟩) | done)))); (first | done | fail)) (by rfl) (by rfl) (by rfl) (fun v h1 n1 hp => ?_); obtain ⟨_, D, S, hDD, rfl, rfl, rfl⟩ := hp; have hI : ArmI (1 + (q : Nat)) (p : Nat) 0 D := (by rw [hDD]; unfold armB; exact arm_begin (by omega) (by omega)); clear hDD; (try (dsimp only [Nat.reduceAdd, List.cons_append, List.nil_append]))) | (guard_target =~ CallOb _ 13 _ _ _ _; guard_hyp mk1 : 1 = 1; refine call_q (ops_k S D' (up_ok (hI2.okN (by omega) (by omega)) (by omega))) [(0, some _)] (by (repeat' (first | exact True.intro | (with_reducible exact rfl) | (with_reducible exact AbsLe.refl) | (guard_target =~ @Eq Nat _ _; first | exact rfl | omega) | (guard_target =~ List.map _ _ = []; exact rfl) | (first | exact covL_still rfl hvs | exact covL_still rfl (still_map (fun _ => rfl) _) | exact covL_still rfl (still_map ro_still _) | apply covL_set | exact congrArg (Value.int _) (by (try dsimp only); omega)) | (exact congrArg (Value.int _) (by omega)) | (exact covL_flat (flat_map (fun _ => rfl) _)) | (exact covL_flat flat_nil) | (refine covP_all ?_) | (refine covL_each ?_) | (refine ⟨?_, ?_⟩) | ((conv => whnf); (first | exact True.intro | (with_reducible exact rfl) | (with_reducible exact AbsLe.refl) | (guard_target =~ @Eq Nat _ _; first | exact rfl | omega) | (guard_target =~ List.map _ _ = []; exact rfl) | (first | exact covL_still rfl hvs | exact covL_still rfl (still_map (fun _ => rfl) _) | exact covL_still rfl (still_map ro_still _) | apply covL_set | exact congrArg (Value.int _) (by (try dsimp only); omega)) | (exact congrArg (Value.int _) (by omega)) | (exact covL_flat (flat_map (fun _ => rfl) _)) | (exact covL_flat flat_nil) | (refine covP_all ?_) | (refine covL_each ?_) | (refine ⟨?_, ?_⟩) | done)))); (first | done | fail)) (by rfl) (by rfl) (by rfl) (fun v h1 n1 hp => ?_); obtain ⟨o2, S, ho2, rfl, rfl, rfl⟩ := hp; replace ho2 := ho2.trans (hI2.opsI); (try (dsimp only [Nat.reduceAdd, List.cons_append, List.nil_append]))) | (guard_target =~ CallOb _ 13 _ _ _ _; refine call_q (ops_k S D (up_ok (hI.okN (by omega) (by omega)) (by omega))) [(0, some _)] (by (repeat' (first | exact True.intro | (with_reducible exact rfl) | (with_reducible exact AbsLe.refl) | (guard_target =~ @Eq Nat _ _; first | exact rfl | omega) | (guard_target =~ List.map _ _ = []; exact rfl) | (first | exact covL_still rfl hvs | exact covL_still rfl (still_map (fun _ => rfl) _) | exact covL_still rfl (still_map ro_still _) | apply covL_set | exact congrArg (Value.int _) (by (try dsimp only); omega)) | (exact congrArg (Value.int _) (by omega)) | (exact covL_flat (flat_map (fun _ => rfl) _)) | (exact covL_flat flat_nil) | (refine covP_all ?_) | (refine covL_each ?_) | (refine ⟨?_, ?_⟩) | ((conv => whnf); (first | exact True.intro | (with_reducible exact rfl) | (with_reducible exact AbsLe.refl) | (guard_target =~ @Eq Nat _ _; first | exact rfl | omega) | (guard_target =~ List.map _ _ = []; exact rfl) | (first | exact covL_still rfl hvs | exact covL_still rfl (still_map (fun _ => rfl) _) | exact covL_still rfl (still_map ro_still _) | apply covL_set | exact congrArg (Value.int _) (by (try dsimp only); omega)) | (exact congrArg (Value.int _) (by omega)) | (exact covL_flat (flat_map (fun _ => rfl) _)) | (exact covL_flat flat_nil) | (refine covP_all ?_) | (refine covL_each ?_) | (refine ⟨?_, ?_⟩) | done)))); (first | done | fail)) (by rfl) (by rfl) (by rfl) (fun v h1 n1 hp => ?_); obtain ⟨o, S, ho, rfl, rfl, rfl⟩ := hp; replace ho := ho.trans (hI.opsI); (try (dsimp only [Nat.reduceAdd, List.cons_append, List.nil_append]))) | (guard_target =~ CallOb _ 15 _ _ _ _; refine call_q (sync_c S D (up_ok (hI.okN (by omega) (by omega)) (by omega)) fN) [(0, some _)] (by (repeat' (first | exact True.intro | (with_reducible exact rfl) | (with_reducible exact AbsLe.refl) | (guard_target =~ @Eq Nat _ _; first | exact rfl | omega) | (guard_target =~ List.map _ _ = []; exact rfl) | (first | exact covL_still rfl hvs | exact covL_still rfl (still_map (fun _ => rfl) _) | exact covL_still rfl (still_map ro_still _) | apply covL_set | exact congrArg (Value.int _) (by (try dsimp only); omega)) | (exact congrArg (Value.int _) (by omega)) | (exact covL_flat (flat_map (fun _ => rfl) _)) | (exact covL_flat flat_nil) | (refine covP_all ?_) | (refine covL_each ?_) | (refine ⟨?_, ?_⟩) | ((conv => whnf); (first | exact True.intro | (with_reducible exact rfl) | (with_reducible exact AbsLe.refl) | (guard_target =~ @Eq Nat _ _; first | exact rfl | omega) | (guard_target =~ List.map _ _ = []; exact rfl) | (first | exact covL_still rfl hvs | exact covL_still rfl (still_map (fun _ => rfl) _) | exact covL_still rfl (still_map ro_still _) | apply covL_set | exact congrArg (Value.int _) (by (try dsimp only); omega)) | (exact congrArg (Value.int _) (by omega)) | (exact covL_flat (flat_map (fun _ => rfl) _)) | (exact covL_flat flat_nil) | (refine covP_all ?_) | (refine covL_each ?_) | (refine ⟨?_, ?_⟩) | done)))); (first | done | fail)) (by rfl) (by rfl) (by rfl) (fun v h1 n1 hp => ?_); obtain ⟨e4, D', S, hsy, rfl, rfl, rfl⟩ := hp; obtain ⟨hz1, hz2, hI2⟩ := hI.sync (by omega) (by omega) hsy; clear hsy; (try (dsimp only [Nat.reduceAdd, List.cons_append, List.nil_append]))) | (guard_target =~ LoopOb _ _ _ _ _ _ _ _; refine loop_rule tabOk mixed [] 2 (fun k => [(0, iv (1 + (q : Nat))), (1, iv (p : Nat)), (2, mslice 0 L.length cap), (7, ptr 1), (8, iv o), (9, iv (AI.i k : Nat))]) (fun k => [(0, .lview (L.map .bool)), (1, diskI (AI.S k) (AI.D k))]) (fun k => 40 - AI.i k) (fun k => 1 ≤ AI.i k ∧ AI.i k ≤ 40 ∧ ArmI (1 + (q : Nat)) (p : Nat) (AI.i k - 1) (AI.D k)) (⟨1, D, S⟩) (⟨Nat.le_refl _, by dsimp only; omega, hI⟩) ⟨[(1, some 1)], Sub.q (by (repeat' (first | exact True.intro | (with_reducible exact rfl) | (with_reducible exact AbsLe.refl) | (guard_target =~ @Eq Nat _ _; first | exact rfl | omega) | (guard_target =~ List.map _ _ = []; exact rfl) | (first | exact covL_still rfl hvs | exact covL_still rfl (still_map (fun _ => rfl) _) | exact covL_still rfl (still_map ro_still _) | apply covL_set | exact congrArg (Value.int _) (by (try dsimp only); omega)) | (exact congrArg (Value.int _) (by omega)) | (exact covL_flat (flat_map (fun _ => rfl) _)) | (exact covL_flat flat_nil) | (refine covP_all ?_) | (refine covL_each ?_) | (refine ⟨?_, ?_⟩) | ((conv => whnf); (first | exact True.intro | (with_reducible exact rfl) | (with_reducible exact AbsLe.refl) | (guard_target =~ @Eq Nat _ _; first | exact rfl | omega) | (guard_target =~ List.map _ _ = []; exact rfl) | (first | exact covL_still rfl hvs | exact covL_still rfl (still_map (fun _ => rfl) _) | exact covL_still rfl (still_map ro_still _) | apply covL_set | exact congrArg (Value.int _) (by (try dsimp only); omega)) | (exact congrArg (Value.int _) (by omega)) | (exact covL_flat (flat_map (fun _ => rfl) _)) | (exact covL_flat flat_nil) | (refine covP_all ?_) | (refine covL_each ?_) | (refine ⟨?_, ?_⟩) | done)))); (first | done | fail)) (by rfl) (by rfl)⟩ (fun k hk => ?_)) | (guard_hyp k : AI; rcases k with ⟨i, D, S⟩; dsimp only at hk ⊢; obtain ⟨hk1, hk2, hI⟩ := hk; have mk1 : 1 = 1 := rfl) | (guard_target =~ ∃ (_ : Nat), _ ∧ _; guard_hyp mk1 : 1 = 1; refine ⟨i, by omega, by omega, ?_⟩) | (guard_hyp mk1 : 1 = 1; refine cell_in1 (l := L) (f := Value.bool) (by omega) (fun wb hwb => ?_)) | (guard_target =~ ∃ r, r = IntKind.wrap .u64 _ ∧ _; refine wrap_u (fun r hr0 hr1 => ?_)) | (refine rem_u (d := 20) (by omega) (by omega) (fun q hq => ?_)) | (refine rem_u (d := 6) (by omega) (by omega) (fun p hp => ?_)) | (with_reducible refine chk_in (Nat.ble_eq_true_of_le (by omega)) ?_) | (with_reducible refine ifB_in ?_ ?_ <;> intro hb <;> (try simp only [decide_eq_true_eq, decide_eq_false_iff_not, Int.not_lt, Int.not_le, ne_eq, Decidable.not_not, Bool.not_eq_true', Bool.not_eq_false', gt_iff_lt, ge_iff_le] at hb) <;> (try (exfalso; omega))) | (with_reducible refine ⟨_, w64b _, ?_⟩) | (with_reducible refine ⟨_, w64 (by omega) (by omega), ?_⟩) | (with_reducible refine ⟨_, wu64 (by omega) (by omega), ?_⟩) | (with_reducible refine ⟨_, wu8 (by omega) (by omega), ?_⟩) | (with_reducible refine ⟨_, w64 (by (simp only [size_sfrom, ByteArray.size_extract, ByteArray.size_append, strOf_size, fixedL_length, lit_size, List.size_toArray, List.length_cons, List.length_nil, List.length_append, List.length_replicate]; omega)) (by (simp only [size_sfrom, ByteArray.size_extract, ByteArray.size_append, strOf_size, fixedL_length, lit_size, List.size_toArray, List.length_cons, List.length_nil, List.length_append, List.length_replicate]; omega)), ?_⟩) | (with_reducible refine ⟨_, rfl, ?_⟩) | (with_reducible refine ⟨rfl, ?_⟩) | (intro cap) | (with_reducible refine ⟨trivial, ?_⟩) | (guard_target =~ (planChk _ _ = true) ∧ _; refine ⟨by kernel_rfl, ?_⟩) | (guard_target =~ (_ ∧ _) ∧ _; refine ⟨by ((repeat (first | exact trivial | refine ⟨rfl, ?_⟩)); (first | done | fail)), ?_⟩) | (refine ⟨by omega, ?_⟩) | (refine ⟨by (simp only [size_sfrom, ByteArray.size_extract, ByteArray.size_append, strOf_size, fixedL_length, lit_size, List.size_toArray, List.length_cons, List.length_nil, List.length_append, List.length_replicate]; omega), ?_⟩) | (refine ⟨0, rfl, ?_⟩) | (refine ⟨1, rfl, ?_⟩) | (refine ⟨2, rfl, ?_⟩) | (refine ⟨3, rfl, ?_⟩) | (refine ⟨4, rfl, ?_⟩) | (refine ⟨5, rfl, ?_⟩) | (refine cell_at1 (by assumption) ?_) | (refine cell_in1 (by omega) (fun x hx => ?_)) | fail)) <;> (try (conv => whnf))
  all_goals first
    | (exfalso; omega)
    | (exfalso; simp at hb; omega)
    | ((refine Ends.go (true) ?_ [] (Fit.q (by (repeat' (first | exact True.intro | (with_reducible exact rfl) | (with_reducible exact AbsLe.refl) | (guard_target =~ @Eq Nat _ _; first | exact rfl | omega) | (guard_target =~ List.map _ _ = []; exact rfl) | (first | exact covL_still rfl hvs | exact covL_still rfl (still_map (fun _ => rfl) _) | exact covL_still rfl (still_map ro_still _) | apply covL_set | exact congrArg (Value.int _) (by (try dsimp only); omega)) | (exact congrArg (Value.int _) (by omega)) | (exact covL_flat (flat_map (fun _ => rfl) _)) | (exact covL_flat flat_nil) | (refine covP_all ?_) | (refine covL_each ?_) | (refine ⟨?_, ?_⟩) | ((conv => whnf); (first | exact True.intro | (with_reducible exact rfl) | (with_reducible exact AbsLe.refl) | (guard_target =~ @Eq Nat _ _; first | exact rfl | omega) | (guard_target =~ List.map _ _ = []; exact rfl) | (first | exact covL_still rfl hvs | exact covL_still rfl (still_map (fun _ => rfl) _) | exact covL_still rfl (still_map ro_still _) | apply covL_set | exact congrArg (Value.int _) (by (try dsimp only); omega)) | (exact congrArg (Value.int _) (by omega)) | (exact covL_flat (flat_map (fun _ => rfl) _)) | (exact covL_flat flat_nil) | (refine covP_all ?_) | (refine covL_each ?_) | (refine ⟨?_, ?_⟩) | done)))); (first | done | fail)) (by rfl) (by rfl))); rfl)
    | ((refine Again.go ((⟨i + 1, D', S⟩ : AI)) ?_ (by (try dsimp only); omega) [(1, some 1)] (Sub.q (by (repeat' (first | exact True.intro | (with_reducible exact rfl) | (with_reducible exact AbsLe.refl) | (guard_target =~ @Eq Nat _ _; first | exact rfl | omega) | (guard_target =~ List.map _ _ = []; exact rfl) | (first | exact covL_still rfl hvs | exact covL_still rfl (still_map (fun _ => rfl) _) | exact covL_still rfl (still_map ro_still _) | apply covL_set | exact congrArg (Value.int _) (by (try dsimp only); omega)) | (exact congrArg (Value.int _) (by omega)) | (exact covL_flat (flat_map (fun _ => rfl) _)) | (exact covL_flat flat_nil) | (refine covP_all ?_) | (refine covL_each ?_) | (refine ⟨?_, ?_⟩) | ((conv => whnf); (first | exact True.intro | (with_reducible exact rfl) | (with_reducible exact AbsLe.refl) | (guard_target =~ @Eq Nat _ _; first | exact rfl | omega) | (guard_target =~ List.map _ _ = []; exact rfl) | (first | exact covL_still rfl hvs | exact covL_still rfl (still_map (fun _ => rfl) _) | exact covL_still rfl (still_map ro_still _) | apply covL_set | exact congrArg (Value.int _) (by (try dsimp only); omega)) | (exact congrArg (Value.int _) (by omega)) | (exact covL_flat (flat_map (fun _ => rfl) _)) | (exact covL_flat flat_nil) | (refine covP_all ?_) | (refine covL_each ?_) | (refine ⟨?_, ?_⟩) | done)))); (first | done | fail)) (by rfl) (by rfl))); exact ⟨by dsimp only; omega, by dsimp only; omega, by (have e : i - 1 + 1 = i + 1 - 1 := (by omega)); rw [e] at hI2; exact hI2⟩)
    | trace_state
namespace diskArms
theorem walk (a0 a1 : Int) (v : Value) (cap : Nat) (L : List Bool) (w : World) (_w0 : (Lit.int .i64 a0).wf = true) (_w1 : (Lit.int .i64 a1).wf = true) (S : SlcAt w v L.length cap (L.flatMap (fun y : Bool => [.bool y]))) (hq : L.length ≤ cap) (hb : cap ≤ 140737488351232) (_hw : ∀ y ∈ L, (fun y : Bool => True) y) :
    Calls Try.prog 3 #[.int .i64 a0, .int .i64 a1, v] w fun e w' => e = .returned (.bool true) ∧ Below w.heap.size w w' := by
  rw [flatMap_one] at S
  obtain ⟨m, _, H, _, hv⟩ := (HRel.start w).see (fun i it e => by cases e) S (flat_map (fun _ => rfl) L)
  exact law_of (cs := [.int .i64 a0, .int .i64 a1, v]) (diskArms_c a0 a1 L cap (by omega)) H ⟨VR.same rfl, VR.same rfl, (VR.of0 rfl).2 hv, trivial⟩ (fun v hh m ⟨_, hz, h, _⟩ => by rw [h, hz])
end diskArms
end Go.Proofs.Ytdgmjjidkaafaaa
