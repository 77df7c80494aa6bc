/- The journal's methods: their walks. -/
import Derived.Test.YtelolcagncgfpaaGreatJrnPure
import Derived.Test.YtelolcagncgfpaaGreatDiskWriteC
import Derived.Test.YtelolcagncgfpaaGreatDiskTotal
import Derived.Test.YtelolcagncgfpaaGreatDiskBytes
import Derived.Test.YtelolcagncgfpaaGreatEngW
namespace Go.Proofs.YtelolcagncgfpaaGreat
open Go.RowKit
set_option linter.unusedSimpArgs false
set_option linter.unusedVariables false
structure JOk (J : JM) : Prop where
 pages : 0 ≤ J.pages ∧ J.pages ≤ 4096
 salt : U64 J.salt
 loose : 0 ≤ J.loose ∧ J.loose ≤ 1000000
 feet : 0 ≤ J.feet ∧ J.feet ≤ 1000000
theorem sizeD_bound {D : DM} (h : D.Ok) (s : ByteArray) : -1 ≤ sizeD D s ∧ sizeD D s ≤ 16384 := by
 unfold sizeD
 cases hx : findF D.fs s with
 | none => dsimp only; omega
 | some x => have := (find_ok h.fs hx).len; dsimp only; omega
theorem iv_inj {a b : Int} : iv a = iv b ↔ a = b := ⟨fun h => by injection h, fun h => by rw [h]⟩
theorem like_ints (l : List Int) (n : Int) : ∀ u ∈ l.map iv, keyLike (iv n) u = true := fun u hu => by
 obtain ⟨p, _, rfl⟩ := List.mem_map.1 hu; rfl
theorem first_mem {l : List Int} {n : Int} {k : Nat} (h : FirstAt (l.map iv) (iv n) k) : l[k]? = some n := by
 obtain ⟨h1, _⟩ := h
 rw [List.getElem?_map] at h1
 cases hp : l[k]? with
 | none => rw [hp] at h1; cases h1
 | some p => rw [hp] at h1; rw [iv_inj.1 (Option.some.inj h1)]
theorem no_ints {l : List Int} {n : Int} (h : ∀ u ∈ l.map iv, u ≠ iv n) : n ∉ l := fun hm => h (iv n) (List.mem_map_of_mem hm) rfl
theorem look_true {l : List Int} {n : Int} {Kf : Value → Prop} {Kn : Prop} (h1 : n ∈ l → Kf (.bool true)) (h2 : n ∉ l → Kn) : LookOb (l.map iv) (l.map fun _ => Value.bool true) (iv n) Kf Kn where
 kinds := like_ints l n
 len := by rw [List.length_map, List.length_map]
 found j v hj hv := by
  have hm := first_mem hj
  rw [List.getElem?_map, hm] at hv
  obtain rfl := Option.some.inj hv
  exact h1 (List.mem_of_getElem? hm)
 none h := h2 (no_ints h)
theorem put_true {l : List Int} {n : Int} (hn : n ∉ l) : PutOb (l.map iv) (l.map fun _ => Value.bool true) (iv n) (.bool true) ((l ++ [n]).map iv) ((l ++ [n]).map fun _ => Value.bool true) where
 kinds := like_ints l n
 len := by rw [List.length_map, List.length_map]
 old j hj := absurd (List.mem_of_getElem? (first_mem hj)) hn
 new h := ⟨by simp, by simp⟩
theorem layD_okN {D : DM} {n : Int} (h : D.OkN n) (salt kind number : Int) (data : ByteArray) : (layD salt D kind number data).2.OkN (n + 1) := by
 unfold layD
 split
 · exact write_okN h _ _ _
 · exact h.mono (by omega)
theorem sealJ_is {J : JM} {D : DM} {s : Int × DM} (hs : s = presyncJ J D) (h0 : ¬ (0 < J.feet ∧ J.loose = 0)) :
 (s.1 ≠ 0 → (s.1, J, s.2) = sealJ J D) ∧ (s.1 = 0 → ∀ r, r = layD J.salt s.2 3 J.loose (footS J.pages J.feet) → (r.1 ≠ 0 → (r.1, J, r.2) = sealJ J D) ∧
 (r.1 = 0 → ∀ t, t = syncD r.2 jnN → (t.1 ≠ 0 → (t.1, J, t.2) = sealJ J D) ∧ (t.1 = 0 → (0, { J with feet := J.feet + 1, loose := 0 }, t.2) = sealJ J D))) := by
 refine ⟨fun h => ?_, fun h r hr => ⟨fun h1 => ?_, fun h1 t ht => ⟨fun h2 => ?_, fun h2 => ?_⟩⟩⟩
 · unfold sealJ; rw [if_neg h0]; dsimp only; rw [← hs, if_pos h]
 · unfold sealJ; rw [if_neg h0]; dsimp only; rw [← hs, if_neg (fun hh => hh h), ← hr, if_pos h1]
 · unfold sealJ; rw [if_neg h0]; dsimp only; rw [← hs, if_neg (fun hh => hh h), ← hr, if_neg (fun hh => hh h1), ← ht, if_pos h2]
 · unfold sealJ; rw [if_neg h0]; dsimp only; rw [← hs, if_neg (fun hh => hh h), ← hr, if_neg (fun hh => hh h1), ← ht, if_neg (fun hh => hh h2)]
abbrev jrv (J : JM) : List Value := [ptr 1, iv J.pages, .int .u64 J.salt, .map (some 2), iv J.loose, iv J.feet]
abbrev jrH (J : JM) (S : Nat → Prop) (D : DM) : HP := [(0, .own 104 (jrv J)), (1, diskI S D), (2, .mp (J.noted.map iv) (J.noted.map fun _ => Value.bool true))]
attribute [local irreducible] numOf fixedL bytesOf strOf strEq strLt sfrom closeS closeE layD footS writeD sizeD syncD dropD presyncJ
theorem rnJrnWalk1 {p : Prop} (h : p := by refine ⟨?_, ?_, ?_⟩; (first | apply rR_tuple | apply rR_one rfl | exact rfl); all_goals (repeat' (first | (with_reducible (first | exact relH_nil | apply rn_lst | apply rn_own | apply rn_mp | apply rn_row | apply rn_abs | exact wo_nil)) | apply wo_keep rfl | apply wo_drop rfl | exact relH_nil | exact r1_flat rfl | exact r0_flat rfl | exact rl_nil | exact wo_nil | exact bk_old rfl | exact bk_new rfl | exact bk_nil rfl | apply rl_cons | (first | exact relL_flat (flat_map (fun _ => rfl) _) | first | exact relL_still hvs | exact relL_still (still_map (fun _ => rfl) _) | exact relL_still (still_map ro_still _) | exact relL_flat (flat_map (fun _ => rfl) _) | apply relL_set) | exact relL_flat (flat_map (fun _ => rfl) _) | exact relL_flat flat_nil | apply relL_to | apply rn_lst | apply rn_own | apply rn_mp | apply rn_row | apply relH_view rfl | apply relH_lview rfl | apply relH_fact rfl | exact r1_rig | exact r0_rig | exact r1_rigs | exact r0_rigs | apply wo_keep rfl | apply wo_drop rfl | apply r1_agg | apply rn_ptr | apply rn_slice | apply rn_slice0 | apply rn_iface | apply rn_map | apply rn_ifacem | apply r0_map | apply r0_ifacem | apply r0_ptr | apply r0_slice | apply r0_slice0 | apply r0_iface)); (first | done | fail)) : p := h
set_option maxRecDepth 100000 in
theorem footing_c (p f : Int) (hp : 0 ≤ p ∧ p ≤ 9223372036854775807) (hf : 0 ≤ f ∧ f ≤ 9223372036854775807) (w : World) :
 Calls Tryz.prog 54 #[iv p, iv f] w fun e w' => e = .returned (.string (footS p f)) ∧ Below w.heap.size w w' := by
 obtain ⟨p, rfl⟩ := Int.eq_ofNat_of_zero_le hp.1
 obtain ⟨f, rfl⟩ := Int.eq_ofNat_of_zero_le hf.1
 have hA := fix4 p
 have hB := fix4 f
 have hR := fun w => c_noughts 224 (by omega) (by omega) w
 have e : footS (p : Nat) (f : Nat) = (strOf (fixedL p 4) ++ strOf (fixedL f 4)) ++ strOf (List.replicate (Int.toNat 224) 0) := by
  rw [← bytesOf_inj]
  unfold footS
  simp only [bytesOf_append, bytesOf_strOf, Int.toNat_natCast]
  rfl
 rw [e]
 have sA : (strOf (fixedL p 4)).size = 4 := by rw [strOf_size, fixedL_length]
 have sB : (strOf (fixedL f 4)).size = 4 := by rw [strOf_size, fixedL_length]
 have sC : (strOf (List.replicate (Int.toNat 224) 0)).size = 224 := by rw [strOf_size, List.length_replicate]; rfl
 generalize strOf (fixedL p 4) = a at *
 generalize strOf (fixedL f 4) = b at *
 generalize strOf (List.replicate (Int.toNat 224) 0) = c at *
 clear e
 have h224 : (224 : Int) = IntKind.i64.wrap (232 - ((a ++ b).size : Nat)) := by
  rw [ByteArray.size_append, sA, sB]
  exact w64 (by decide) (by decide)
 refine calls_pure tabOk mixed Tryz.func54 rfl [] [iv (p : Nat), iv (f : Nat)] rfl (Nat.le_of_ble_eq_true rfl) rfl ?_ w
 (repeat' ((try (conv => whnf)); first | (guard_target =~ ∃ (_ : Value), ∃ (_ : HP), ∃ (_ : HP), _; refine ⟨_, _, _, rnJrnWalk1, ?_⟩; (try (dsimp only [Nat.reduceAdd, bC, bL]))) | (guard_target =~ CallOb _ 80 _ _ _ _; (with_reducible refine call_pure Tryz.call80 (hA) ?_ ?_ ?_); exact rfl; exact rfl) | (guard_target =~ CallOb _ 80 _ _ _ _; (with_reducible refine call_pure Tryz.call80 (hB) ?_ ?_ ?_); exact rfl; exact rfl) | (guard_target =~ ∃ r, r = IntKind.wrap .i64 (232 - _) ∧ _; refine ⟨224, h224, ?_⟩) | (guard_target =~ CallOb _ 30 _ _ _ _; (with_reducible refine call_pure Tryz.call30 (hR) ?_ ?_ ?_); exact rfl; exact rfl) | (with_reducible first | refine chk_in (Nat.ble_eq_true_of_le omT) ?_ | (refine ifB_in ?_ ?_ <;> intro hb <;> (try simp only [bN1, bN2, bN3, bN4, bN5, bN6, bN7, bN8, bN9, bN0] at hb) <;> (try (exfalso; omega))) | refine ⟨_, w64b _, ?_⟩ | refine ⟨_, w64 omT omT, ?_⟩ | refine ⟨_, wu64 omT omT, ?_⟩ | refine ⟨_, wu8 omT omT, ?_⟩ | refine ⟨_, w64 szT szT, ?_⟩ | refine ⟨_, rfl, ?_⟩ | refine ⟨rfl, ?_⟩) | intro cap | (with_reducible refine ⟨trivial, ?_⟩) | (guard_target =~ (planChk _ _ = true) ∧ _; refine ⟨by kernel_rfl, ?_⟩) | (guard_target =~ (_ ∧ _) ∧ _; refine ⟨by ((repeat (first | exact trivial | refine ⟨rfl, ?_⟩)); (first | done | fail)), ?_⟩) | refine ⟨by omega, ?_⟩ | refine ⟨szT, ?_⟩ | refine ⟨0, rfl, ?_⟩ | refine ⟨1, rfl, ?_⟩ | refine ⟨2, rfl, ?_⟩ | refine ⟨3, rfl, ?_⟩ | refine ⟨4, rfl, ?_⟩ | refine ⟨5, rfl, ?_⟩ | (refine cell_at1 (by assumption) ?_) | (refine cell_in1 omT (fun x hx => ?_)) | fail)) <;> (try (conv => whnf))
 rfl
theorem cvJrnWalk2 {p : Prop} (h : p := by have nw := True.intro; (repeat' (first | exact True.intro | (with_reducible exact rfl) | (with_reducible exact AbsLe.refl) | (guard_target =~ @Eq Nat _ _; first | exact rfl | omega) | (guard_target =~ List.map _ _ = []; exact rfl) | (first | (guard_target =~ @Eq (List Value) _ _; exact rfl) | exact covL_of rfl (flat_map (fun _ => rfl) _) | first | exact covL_still rfl hvs | exact covL_still rfl (still_map (fun _ => rfl) _) | exact covL_still rfl (still_map ro_still _) | (apply covL_set <;> (try clear nw) <;> have nw := True.intro) | exact congrArg (Value.int _) (by (try dsimp only); omega)) | (exact congrArg (Value.int _) (by omega)) | (exact covL_flat (flat_map (fun _ => rfl) _)) | (exact covL_flat flat_nil) | (refine covP_all ?_; (try clear nw); have nw := True.intro) | (refine covL_each ?_; (try clear nw); have nw := True.intro) | (refine ⟨?_, ?_⟩ <;> (try clear nw) <;> have nw := True.intro) | (guard_hyp nw : True; ((conv => whnf) <;> clear nw)))); (first | done | fail)) : p := h
set_option maxRecDepth 100000 in
set_option maxHeartbeats 2000000 in
theorem lay_c (J : JM) (S : Nat → Prop) (D : DM) (hD : D.Ok) (kind number s0 : Int) (data : ByteArray) (hs : U64 J.salt) :
 CallOb Tryz.prog 52 [ptr 0, .agg #[iv kind, iv number, .int .u64 s0, .string data]] (jrH J S D) 3 (fun v h m => ∃ x : Int × DM × (Nat → Prop), (x.1, x.2.1) = layD J.salt D kind number data ∧ v = iv x.1 ∧ h = jrH J x.2.2 x.2.1 ∧ m = 40) := by
 refine call_spec tabOk mixed Tryz.call52 Tryz.func52 rfl [] (fun x : Int × DM × (Nat → Prop) => (x.1, x.2.1) = layD J.salt D kind number data) (fun x => iv x.1) (fun x => jrH J x.2.2 x.2.1) (fun _ => 40) ?_ ?_
 · exact (Nat.le_of_ble_eq_true rfl)
 have hcl := fun w => close_any kind number J.salt data w hs
 have hl1 : ∀ (e : Int) (D' : DM), closeE kind number data = 0 → (e, D') = writeD D jnN (max (sizeD D jnN) 0) (closeS kind number J.salt.toNat data) → (e, D') = layD J.salt D kind number data := fun e D' h1 h2 => by rw [h2]; unfold layD; rw [if_pos h1]
 have hl2 : ¬ closeE kind number data = 0 → (closeE kind number data, D) = layD J.salt D kind number data := fun h1 => by unfold layD; rw [if_neg h1]
 generalize closeE kind number data = es at *
 generalize closeS kind number J.salt.toNat data = ss at *
 (repeat' ((try (conv => whnf)); first | (guard_target =~ ∃ (_ : Value), ∃ (_ : HP), ∃ (_ : HP), _; refine ⟨_, _, _, rnJrnWalk1, ?_⟩; (try (dsimp only [Nat.reduceAdd, bC, bL]))) | (guard_target =~ CallOb _ 73 _ _ _ _; (with_reducible refine call_pure Tryz.call73 (hcl) ?_ ?_ ?_); exact rfl; exact rfl) | (guard_target =~ CallOb _ 18 _ _ _ _; refine call_q (size_k S D hD jnN) [(0, some 1)] cvJrnWalk2 rfT rfT rfT (fun v h1 n1 hp => ?_); obtain ⟨sz, S, hsz, rfl, rfl, rfl⟩ := hp; have hzb := sizeD_bound hD jnN; rw [← hsz] at hzb; obtain ⟨mx, hmx⟩ : ∃ mx, mx = max sz 0 := ⟨_, rfl⟩; have hmb : 0 ≤ mx ∧ mx ≤ 16384 := omT; (try (dsimp only [Nat.reduceAdd, bC, bL]))) | (guard_target =~ ∃ r, r = max _ _ ∧ _; refine ⟨mx, hmx, ?_⟩) | (guard_target =~ CallOb _ 74 _ _ _ _; refine call_q (write_c S D hD jnN mx ss omT) [(0, some 1)] cvJrnWalk2 rfT rfT rfT (fun v h1 n1 hp => ?_); obtain ⟨ew, D', S', hw, rfl, rfl, rfl⟩ := hp; rw [hmx, hsz] at hw; (try (dsimp only [Nat.reduceAdd, bC, bL]))) | (guard_target =~ extH _ _ _ ∧ _; refine ⟨by (repeat' ((try (conv => whnf)); first | exact True.intro | exact trivial | (refine ⟨rfl, ?_⟩))); (first | done | fail), ?_⟩) | (guard_target =~ RegOb _ _ _ 5 _ _ _ _ _; refine reg_hold tabOk mixed [1] [(0, true), (1, true), (2, true), (3, true), (4, true), (5, true), (6, true), (7, true), (10, true), (8, false), (9, true), (1011, false), (12, true)] (by kernel_rfl) ?_) | (with_reducible first | refine chk_in (Nat.ble_eq_true_of_le omT) ?_ | (refine ifB_in ?_ ?_ <;> intro hb <;> (try simp only [bN1, bN2, bN3, bN4, bN5, bN6, bN7, bN8, bN9, bN0] at hb) <;> (try (exfalso; omega))) | refine ⟨_, w64b _, ?_⟩ | refine ⟨_, w64 omT omT, ?_⟩ | refine ⟨_, wu64 omT omT, ?_⟩ | refine ⟨_, wu8 omT omT, ?_⟩ | refine ⟨_, w64 szT szT, ?_⟩ | refine ⟨_, rfl, ?_⟩ | refine ⟨rfl, ?_⟩) | intro cap | (with_reducible refine ⟨trivial, ?_⟩) | (guard_target =~ (planChk _ _ = true) ∧ _; refine ⟨by kernel_rfl, ?_⟩) | (guard_target =~ (_ ∧ _) ∧ _; refine ⟨by ((repeat (first | exact trivial | refine ⟨rfl, ?_⟩)); (first | done | fail)), ?_⟩) | refine ⟨by omega, ?_⟩ | refine ⟨szT, ?_⟩ | refine ⟨0, rfl, ?_⟩ | refine ⟨1, rfl, ?_⟩ | refine ⟨2, rfl, ?_⟩ | refine ⟨3, rfl, ?_⟩ | refine ⟨4, rfl, ?_⟩ | refine ⟨5, rfl, ?_⟩ | (refine cell_at1 (by assumption) ?_) | (refine cell_in1 omT (fun x hx => ?_)) | fail)) <;> (try (conv => whnf))
 all_goals first
  | ((refine Ends.go ((es, D, S)) ?_ [(0, some 0), (1, some 1), (2, some 2)] (Fit.q cvJrnWalk2 (by rfl) (by rfl))); exact hl2 hb)
  | ((refine Ends.go ((ew, D', S')) ?_ [(0, some 0), (1, some 1), (2, some 2)] (Fit.q cvJrnWalk2 (by rfl) (by rfl))); exact hl1 ew D' ‹es = 0› hw)
  | trace_state
abbrev JX := JM × DM × (Nat → Prop)
theorem has_c (J : JM) (S : Nat → Prop) (D : DM) (n : Int) : CallOb Tryz.prog 23 [ptr 0, iv n] (jrH J S D) 3 (fun v h m => ∃ z : Bool, (z = true ↔ n ∈ J.noted) ∧ v = .bool z ∧ h = jrH J S D ∧ m = 3) := by
 refine call_spec tabOk mixed Tryz.call23 Tryz.func23 rfl [] (fun z : Bool => z = true ↔ n ∈ J.noted) (fun z => .bool z) (fun _ => jrH J S D) (fun _ => 3) ?_ ?_
 · exact (Nat.le_of_ble_eq_true rfl)
 (repeat' ((try (conv => whnf)); first | (guard_target =~ ∃ (_ : Value), ∃ (_ : HP), ∃ (_ : HP), _; refine ⟨_, _, _, rnJrnWalk1, ?_⟩; (try (dsimp only [Nat.reduceAdd, bC, bL]))) | (guard_target =~ LookOb _ _ _ _ _; refine look_true (fun hin => ?_) (fun hin => ?_)) | (guard_target =~ ∃ ks' vs', PutOb _ _ _ _ ks' vs' ∧ _; refine ⟨_, _, put_true hin, ?_⟩) | (with_reducible first | refine chk_in (Nat.ble_eq_true_of_le omT) ?_ | (refine ifB_in ?_ ?_ <;> intro hb <;> (try simp only [bN1, bN2, bN3, bN4, bN5, bN6, bN7, bN8, bN9, bN0] at hb) <;> (try (exfalso; omega))) | refine ⟨_, w64b _, ?_⟩ | refine ⟨_, w64 omT omT, ?_⟩ | refine ⟨_, wu64 omT omT, ?_⟩ | refine ⟨_, wu8 omT omT, ?_⟩ | refine ⟨_, w64 szT szT, ?_⟩ | refine ⟨_, rfl, ?_⟩ | refine ⟨rfl, ?_⟩) | intro cap | (with_reducible refine ⟨trivial, ?_⟩) | (guard_target =~ (planChk _ _ = true) ∧ _; refine ⟨by kernel_rfl, ?_⟩) | (guard_target =~ (_ ∧ _) ∧ _; refine ⟨by ((repeat (first | exact trivial | refine ⟨rfl, ?_⟩)); (first | done | fail)), ?_⟩) | refine ⟨by omega, ?_⟩ | refine ⟨szT, ?_⟩ | refine ⟨0, rfl, ?_⟩ | refine ⟨1, rfl, ?_⟩ | refine ⟨2, rfl, ?_⟩ | refine ⟨3, rfl, ?_⟩ | refine ⟨4, rfl, ?_⟩ | refine ⟨5, rfl, ?_⟩ | (refine cell_at1 (by assumption) ?_) | (refine cell_in1 omT (fun x hx => ?_)) | fail)) <;> (try (conv => whnf))
 · (refine Ends.go (true) ?_ [(0, some 0), (1, some 1), (2, some 2)] (Fit.q cvJrnWalk2 (by rfl) (by rfl)))
   exact iff_of_true rfl hin
 · (refine Ends.go (false) ?_ [(0, some 0), (1, some 1), (2, some 2)] (Fit.q cvJrnWalk2 (by rfl) (by rfl)))
   exact iff_of_false (by decide) hin
set_option maxRecDepth 100000 in
theorem note_c (J : JM) (S : Nat → Prop) (D : DM) {N : Int} (hD : D.OkN N) (hN : N ≤ 900000) (hJ : JOk J) (n : Int) (data : ByteArray) :
 CallOb Tryz.prog 21 [ptr 0, iv n, .string data] (jrH J S D) 3 (fun v h m => ∃ x : Int × JX, (x.1, x.2.1, x.2.2.1) = noteJ J D n data ∧ v = iv x.1 ∧ h = jrH x.2.1 x.2.2.2 x.2.2.1 ∧ m = 60) := by
 refine call_spec tabOk mixed Tryz.call21 Tryz.func21 rfl [] (fun x : Int × JX => (x.1, x.2.1, x.2.2.1) = noteJ J D n data) (fun x => iv x.1) (fun x => jrH x.2.1 x.2.2.2 x.2.2.1) (fun _ => 60) ?_ ?_
 · exact (Nat.le_of_ble_eq_true rfl)
 have hlo := hJ.loose
 have E1 : n < 0 ∨ J.pages ≤ n ∨ data.size ≠ 232 → (1, J, D) = noteJ J D n data := fun h => by unfold noteJ; rw [if_pos h]
 have E2 : ¬ (n < 0 ∨ J.pages ≤ n ∨ data.size ≠ 232) → n ∈ J.noted → (0, J, D) = noteJ J D n data := fun h h1 => by unfold noteJ; rw [if_neg h, if_pos h1]
 have E3 : ∀ (e : Int) (D' : DM), ¬ (n < 0 ∨ J.pages ≤ n ∨ data.size ≠ 232) → n ∉ J.noted → (e, D') = layD J.salt D 2 n data → e = 0 → (e, { J with noted := J.noted ++ [n], loose := J.loose + 1 }, D') = noteJ J D n data := fun e D' h h1 h2 h3 => by
  unfold noteJ; rw [if_neg h, if_neg h1, ← h2, if_pos h3, h3]
 have E4 : ∀ (e : Int) (D' : DM), ¬ (n < 0 ∨ J.pages ≤ n ∨ data.size ≠ 232) → n ∉ J.noted → (e, D') = layD J.salt D 2 n data → ¬ e = 0 → (e, J, D') = noteJ J D n data := fun e D' h h1 h2 h3 => by
  unfold noteJ; rw [if_neg h, if_neg h1, ← h2, if_neg h3]
 (repeat' ((try (conv => whnf)); first | (guard_target =~ ∃ (_ : Value), ∃ (_ : HP), ∃ (_ : HP), _; refine ⟨_, _, _, rnJrnWalk1, ?_⟩; (try (dsimp only [Nat.reduceAdd, bC, bL]))) | (guard_target =~ LookOb _ _ _ _ _; refine look_true (fun hin => ?_) (fun hin => ?_)) | (guard_target =~ ∃ ks' vs', PutOb _ _ _ _ ks' vs' ∧ _; refine ⟨_, _, put_true hin, ?_⟩) | (guard_target =~ CallOb _ 52 _ _ _ _; refine call_q (lay_c J S D (up_ok hD omT) 2 n 0 data hJ.salt) [(0, some 0), (1, some 1), (2, some 2)] cvJrnWalk2 rfT rfT rfT (fun v h1 n1 hp => ?_); obtain ⟨⟨el, D', S'⟩, hl, rfl, rfl, rfl⟩ := hp; dsimp only at hl; (try (dsimp only [Nat.reduceAdd, bC, bL]))) | (with_reducible first | refine chk_in (Nat.ble_eq_true_of_le omT) ?_ | (refine ifB_in ?_ ?_ <;> intro hb <;> (try simp only [bN1, bN2, bN3, bN4, bN5, bN6, bN7, bN8, bN9, bN0] at hb) <;> (try (exfalso; omega))) | refine ⟨_, w64b _, ?_⟩ | refine ⟨_, w64 omT omT, ?_⟩ | refine ⟨_, wu64 omT omT, ?_⟩ | refine ⟨_, wu8 omT omT, ?_⟩ | refine ⟨_, w64 szT szT, ?_⟩ | refine ⟨_, rfl, ?_⟩ | refine ⟨rfl, ?_⟩) | intro cap | (with_reducible refine ⟨trivial, ?_⟩) | (guard_target =~ (planChk _ _ = true) ∧ _; refine ⟨by kernel_rfl, ?_⟩) | (guard_target =~ (_ ∧ _) ∧ _; refine ⟨by ((repeat (first | exact trivial | refine ⟨rfl, ?_⟩)); (first | done | fail)), ?_⟩) | refine ⟨by omega, ?_⟩ | refine ⟨szT, ?_⟩ | refine ⟨0, rfl, ?_⟩ | refine ⟨1, rfl, ?_⟩ | refine ⟨2, rfl, ?_⟩ | refine ⟨3, rfl, ?_⟩ | refine ⟨4, rfl, ?_⟩ | refine ⟨5, rfl, ?_⟩ | (refine cell_at1 (by assumption) ?_) | (refine cell_in1 omT (fun x hx => ?_)) | fail)) <;> (try (conv => whnf))
 all_goals first
  | ((refine Ends.go ((1, J, D, S)) ?_ [(0, some 0), (1, some 1), (2, some 2)] (Fit.q cvJrnWalk2 (by rfl) (by rfl))); exact E1 (by omega))
  | ((refine Ends.go ((0, J, D, S)) ?_ [(0, some 0), (1, some 1), (2, some 2)] (Fit.q cvJrnWalk2 (by rfl) (by rfl))); exact E2 (by omega) hin)
  | ((refine Ends.go ((el, { J with noted := J.noted ++ [n], loose := J.loose + 1 }, D', S')) ?_ [(0, some 0), (1, some 1), (2, some 2)] (Fit.q cvJrnWalk2 (by rfl) (by rfl))); exact E3 el D' (by omega) hin hl hb)
  | ((refine Ends.go ((el, J, D', S')) ?_ [(0, some 0), (1, some 1), (2, some 2)] (Fit.q cvJrnWalk2 (by rfl) (by rfl))); exact E4 el D' (by omega) hin hl hb)
  | trace_state
set_option maxRecDepth 100000 in
set_option maxHeartbeats 2000000 in
theorem seal_c (J : JM) (S : Nat → Prop) (D : DM) {N : Int} (hD : D.OkN N) (hN : N ≤ 900000) (hJ : JOk J) :
 CallOb Tryz.prog 22 [ptr 0] (jrH J S D) 3 (fun v h m => ∃ x : Int × JX, (x.1, x.2.1, x.2.2.1) = sealJ J D ∧ v = iv x.1 ∧ h = jrH x.2.1 x.2.2.2 x.2.2.1 ∧ m = 150) := by
 refine call_spec tabOk mixed Tryz.call22 Tryz.func22 rfl [] (fun x : Int × JX => (x.1, x.2.1, x.2.2.1) = sealJ J D) (fun x => iv x.1) (fun x => jrH x.2.1 x.2.2.2 x.2.2.1) (fun _ => 150) ?_ ?_
 · exact (Nat.le_of_ble_eq_true rfl)
 have hlo := hJ.loose
 have hfe := hJ.feet
 have hpa := hJ.pages
 have hft := footing_c J.pages J.feet (by omega) (by omega)
 have E0 : (0 < J.feet ∧ J.loose = 0) → (0, J, D) = sealJ J D := fun h => by unfold sealJ; rw [if_pos h]
 have P1 : ∀ (e : Int) (D' : DM), 0 < J.loose → (e, D') = syncD D jnN → (e, D') = presyncJ J D := fun e D' h h1 => by unfold presyncJ; rw [if_pos h, h1]
 have P2 : ¬ 0 < J.loose → ((0 : Int), D) = presyncJ J D := fun h => by unfold presyncJ; rw [if_neg h]
 have Q := fun (s : Int × DM) (hs : s = presyncJ J D) => sealJ_is (J := J) (D := D) hs
 generalize footS J.pages J.feet = ft at *
 have mk0 : 1 = 1 := rfl
 (repeat' ((try (conv => whnf)); first | (guard_target =~ ∃ (_ : Value), ∃ (_ : HP), ∃ (_ : HP), _; refine ⟨_, _, _, rnJrnWalk1, ?_⟩; (try (dsimp only [Nat.reduceAdd, bC, bL]))) | (guard_target =~ CallOb _ 54 _ _ _ _; (with_reducible refine call_pure Tryz.call54 (hft) ?_ ?_ ?_); exact rfl; exact rfl) | (guard_target =~ CallOb _ 53 _ _ _ _; guard_hyp mk0 : 1 = 1; clear mk0; refine call_q (sync_c S D (up_ok hD omT) jnN) [(0, some 1)] cvJrnWalk2 rfT rfT rfT (fun v h1 n1 hp => ?_); obtain ⟨es, D1, S1, hs1, rfl, rfl, rfl⟩ := hp; have hk1 := sync_okN hD jnN; rw [← hs1] at hk1; dsimp only at hk1; (try (dsimp only [Nat.reduceAdd, bC, bL]))) | (guard_target =~ CallOb _ 52 _ _ _ _; first | (guard_hyp hs1 : (es, D1) = syncD D jnN; refine call_q (lay_c J S1 D1 (up_ok hk1 omT) 3 J.loose 0 ft hJ.salt) [(0, some 0), (1, some 1), (2, some 2)] cvJrnWalk2 rfT rfT rfT (fun v h1 n1 hp => ?_); obtain ⟨⟨el, D2, S2⟩, hl, rfl, rfl, rfl⟩ := hp; dsimp only at hl; have hk2 := layD_okN hk1 J.salt 3 J.loose ft; rw [← hl] at hk2; dsimp only at hk2; (try (dsimp only [Nat.reduceAdd, bC, bL]))) | (clear mk0; refine call_q (lay_c J S D (up_ok hD omT) 3 J.loose 0 ft hJ.salt) [(0, some 0), (1, some 1), (2, some 2)] cvJrnWalk2 rfT rfT rfT (fun v h1 n1 hp => ?_); obtain ⟨⟨el, D2, S2⟩, hl, rfl, rfl, rfl⟩ := hp; dsimp only at hl; have hk2 := layD_okN hD J.salt 3 J.loose ft; rw [← hl] at hk2; dsimp only at hk2; (try (dsimp only [Nat.reduceAdd, bC, bL])))) | (guard_target =~ CallOb _ 53 _ _ _ _; refine call_q (sync_c S2 D2 (up_ok hk2 omT) jnN) [(0, some 1)] cvJrnWalk2 rfT rfT rfT (fun v h1 n1 hp => ?_); obtain ⟨et, D3, S3, hs3, rfl, rfl, rfl⟩ := hp; (try (dsimp only [Nat.reduceAdd, bC, bL]))) | (guard_target =~ extH _ _ _ ∧ _; refine ⟨by (repeat' ((try (conv => whnf)); first | exact True.intro | exact trivial | (refine ⟨rfl, ?_⟩))); (first | done | fail), ?_⟩) | (guard_target =~ RegOb _ _ _ 9 _ _ _ _ _; refine reg_hold tabOk mixed [1] [(0, true), (1, true), (2, true), (3, true), (4, true), (5, true), (6, true), (7, true), (8, true), (9, true), (10, true), (11, true), (12, true), (13, false), (14, true), (1015, false), (16, true)] (by kernel_rfl) ?_) | (with_reducible first | refine chk_in (Nat.ble_eq_true_of_le omT) ?_ | (refine ifB_in ?_ ?_ <;> intro hb <;> (try simp only [bN1, bN2, bN3, bN4, bN5, bN6, bN7, bN8, bN9, bN0] at hb) <;> (try (exfalso; omega))) | refine ⟨_, w64b _, ?_⟩ | refine ⟨_, w64 omT omT, ?_⟩ | refine ⟨_, wu64 omT omT, ?_⟩ | refine ⟨_, wu8 omT omT, ?_⟩ | refine ⟨_, w64 szT szT, ?_⟩ | refine ⟨_, rfl, ?_⟩ | refine ⟨rfl, ?_⟩) | intro cap | (with_reducible refine ⟨trivial, ?_⟩) | (guard_target =~ (planChk _ _ = true) ∧ _; refine ⟨by kernel_rfl, ?_⟩) | (guard_target =~ (_ ∧ _) ∧ _; refine ⟨by ((repeat (first | exact trivial | refine ⟨rfl, ?_⟩)); (first | done | fail)), ?_⟩) | refine ⟨by omega, ?_⟩ | refine ⟨szT, ?_⟩ | refine ⟨0, rfl, ?_⟩ | refine ⟨1, rfl, ?_⟩ | refine ⟨2, rfl, ?_⟩ | refine ⟨3, rfl, ?_⟩ | refine ⟨4, rfl, ?_⟩ | refine ⟨5, rfl, ?_⟩ | (refine cell_at1 (by assumption) ?_) | (refine cell_in1 omT (fun x hx => ?_)) | fail)) <;> (try (conv => whnf))
 all_goals first
  | ((refine Ends.go ((0, J, D, S)) ?_ [(0, some 0), (1, some 1), (2, some 2)] (Fit.q cvJrnWalk2 (by rfl) (by rfl))); exact E0 (by omega))
  | (guard_hyp hs1 : (es, D1) = syncD D jnN; first
   | ((refine Ends.go ((0, { J with feet := J.feet + 1, loose := 0 }, D3, S3)) ?_ [(0, some 0), (1, some 1), (2, some 2)] (Fit.q cvJrnWalk2 (by rfl) (by rfl))); exact (((Q _ (P1 es D1 (by omega) hs1) (by omega)).2 ‹es = 0› _ hl).2 ‹el = 0› _ hs3).2 hb)
   | ((refine Ends.go ((et, J, D3, S3)) ?_ [(0, some 0), (1, some 1), (2, some 2)] (Fit.q cvJrnWalk2 (by rfl) (by rfl))); exact (((Q _ (P1 es D1 (by omega) hs1) (by omega)).2 ‹es = 0› _ hl).2 ‹el = 0› _ hs3).1 hb)
   | ((refine Ends.go ((el, J, D2, S2)) ?_ [(0, some 0), (1, some 1), (2, some 2)] (Fit.q cvJrnWalk2 (by rfl) (by rfl))); exact ((Q _ (P1 es D1 (by omega) hs1) (by omega)).2 ‹es = 0› _ hl).1 hb)
   | ((refine Ends.go ((es, J, D1, S1)) ?_ [(0, some 0), (1, some 1), (2, some 2)] (Fit.q cvJrnWalk2 (by rfl) (by rfl))); exact (Q _ (P1 es D1 (by omega) hs1) (by omega)).1 hb))
  | ((refine Ends.go ((0, { J with feet := J.feet + 1, loose := 0 }, D3, S3)) ?_ [(0, some 0), (1, some 1), (2, some 2)] (Fit.q cvJrnWalk2 (by rfl) (by rfl))); exact (((Q _ (P2 (by omega)) (by omega)).2 rfl _ hl).2 ‹el = 0› _ hs3).2 hb)
  | ((refine Ends.go ((et, J, D3, S3)) ?_ [(0, some 0), (1, some 1), (2, some 2)] (Fit.q cvJrnWalk2 (by rfl) (by rfl))); exact (((Q _ (P2 (by omega)) (by omega)).2 rfl _ hl).2 ‹el = 0› _ hs3).1 hb)
  | ((refine Ends.go ((el, J, D2, S2)) ?_ [(0, some 0), (1, some 1), (2, some 2)] (Fit.q cvJrnWalk2 (by rfl) (by rfl))); exact ((Q _ (P2 (by omega)) (by omega)).2 rfl _ hl).1 hb)
  | trace_state
theorem gon_c (S : Nat → Prop) (D : DM) {N : Int} (hD : D.OkN N) (hN : N ≤ 900000) :
 CallOb Tryz.prog 44 [ptr 0] [(0, diskI S D)] 1 (fun v h m => ∃ x : Int × DM × (Nat → Prop), (x.1, x.2.1) = gonJ D ∧ v = iv x.1 ∧ h = [(0, diskI x.2.2 x.2.1)] ∧ m = 40) := by
 refine call_spec tabOk mixed Tryz.call44 Tryz.func44 rfl [] (fun x : Int × DM × (Nat → Prop) => (x.1, x.2.1) = gonJ D) (fun x => iv x.1) (fun x => [(0, diskI x.2.2 x.2.1)]) (fun _ => 40) ?_ ?_
 · exact (Nat.le_of_ble_eq_true rfl)
 have E1 : sizeD D jnN < 0 → (0, D) = gonJ D := fun h => by unfold gonJ; rw [if_pos h]
 have E2 : ∀ (e : Int) (D' : DM), ¬ sizeD D jnN < 0 → (e, D') = dropD D jnN → (e, D') = gonJ D := fun e D' h h1 => by unfold gonJ; rw [if_neg h, h1]
 (repeat' ((try (conv => whnf)); first | (guard_target =~ ∃ (_ : Value), ∃ (_ : HP), ∃ (_ : HP), _; refine ⟨_, _, _, rnJrnWalk1, ?_⟩; (try (dsimp only [Nat.reduceAdd, bC, bL]))) | (guard_target =~ CallOb _ 18 _ _ _ _; refine call_q (size_k S D (up_ok hD omT) jnN) [(0, some 0)] cvJrnWalk2 rfT rfT rfT (fun v h1 n1 hp => ?_); obtain ⟨sz, S, hsz, rfl, rfl, rfl⟩ := hp; (try (dsimp only [Nat.reduceAdd, bC, bL]))) | (guard_target =~ CallOb _ 76 _ _ _ _; refine call_q (drop_c S D (up_ok hD omT) jnN) [(0, some 0)] cvJrnWalk2 rfT rfT rfT (fun v h1 n1 hp => ?_); obtain ⟨ed, D', S', hd, rfl, rfl, rfl⟩ := hp; (try (dsimp only [Nat.reduceAdd, bC, bL]))) | (with_reducible first | refine chk_in (Nat.ble_eq_true_of_le omT) ?_ | (refine ifB_in ?_ ?_ <;> intro hb <;> (try simp only [bN1, bN2, bN3, bN4, bN5, bN6, bN7, bN8, bN9, bN0] at hb) <;> (try (exfalso; omega))) | refine ⟨_, w64b _, ?_⟩ | refine ⟨_, w64 omT omT, ?_⟩ | refine ⟨_, wu64 omT omT, ?_⟩ | refine ⟨_, wu8 omT omT, ?_⟩ | refine ⟨_, w64 szT szT, ?_⟩ | refine ⟨_, rfl, ?_⟩ | refine ⟨rfl, ?_⟩) | intro cap | (with_reducible refine ⟨trivial, ?_⟩) | (guard_target =~ (planChk _ _ = true) ∧ _; refine ⟨by kernel_rfl, ?_⟩) | (guard_target =~ (_ ∧ _) ∧ _; refine ⟨by ((repeat (first | exact trivial | refine ⟨rfl, ?_⟩)); (first | done | fail)), ?_⟩) | refine ⟨by omega, ?_⟩ | refine ⟨szT, ?_⟩ | refine ⟨0, rfl, ?_⟩ | refine ⟨1, rfl, ?_⟩ | refine ⟨2, rfl, ?_⟩ | refine ⟨3, rfl, ?_⟩ | refine ⟨4, rfl, ?_⟩ | refine ⟨5, rfl, ?_⟩ | (refine cell_at1 (by assumption) ?_) | (refine cell_in1 omT (fun x hx => ?_)) | fail)) <;> (try (conv => whnf))
 all_goals first
  | ((refine Ends.go ((0, D, S)) ?_ [(0, some 0)] (Fit.q cvJrnWalk2 (by rfl) (by rfl))); exact E1 (by omega))
  | ((refine Ends.go ((ed, D', S')) ?_ [(0, some 0)] (Fit.q cvJrnWalk2 (by rfl) (by rfl))); exact E2 ed D' (by omega) hd)
  | trace_state
theorem end_c (J : JM) (S : Nat → Prop) (D : DM) {N : Int} (hD : D.OkN N) (hN : N ≤ 900000) :
 CallOb Tryz.prog 24 [ptr 0] (jrH J S D) 3 (fun v h m => ∃ x : Int × DM × (Nat → Prop), (x.1, x.2.1) = gonJ D ∧ v = iv x.1 ∧ h = jrH J x.2.2 x.2.1 ∧ m = 80) := by
 refine call_spec tabOk mixed Tryz.call24 Tryz.func24 rfl [] (fun x : Int × DM × (Nat → Prop) => (x.1, x.2.1) = gonJ D) (fun x => iv x.1) (fun x => jrH J x.2.2 x.2.1) (fun _ => 80) ?_ ?_
 · exact (Nat.le_of_ble_eq_true rfl)
 (repeat' ((try (conv => whnf)); first | (guard_target =~ ∃ (_ : Value), ∃ (_ : HP), ∃ (_ : HP), _; refine ⟨_, _, _, rnJrnWalk1, ?_⟩; (try (dsimp only [Nat.reduceAdd, bC, bL]))) | (guard_target =~ CallOb _ 44 _ _ _ _; refine call_q (gon_c S D hD hN) [(0, some 1)] cvJrnWalk2 rfT rfT rfT (fun v h1 n1 hp => ?_); obtain ⟨⟨ed, D', S'⟩, hd, rfl, rfl, rfl⟩ := hp; (try (dsimp only [Nat.reduceAdd, bC, bL]))) | (with_reducible first | refine chk_in (Nat.ble_eq_true_of_le omT) ?_ | (refine ifB_in ?_ ?_ <;> intro hb <;> (try simp only [bN1, bN2, bN3, bN4, bN5, bN6, bN7, bN8, bN9, bN0] at hb) <;> (try (exfalso; omega))) | refine ⟨_, w64b _, ?_⟩ | refine ⟨_, w64 omT omT, ?_⟩ | refine ⟨_, wu64 omT omT, ?_⟩ | refine ⟨_, wu8 omT omT, ?_⟩ | refine ⟨_, w64 szT szT, ?_⟩ | refine ⟨_, rfl, ?_⟩ | refine ⟨rfl, ?_⟩) | intro cap | (with_reducible refine ⟨trivial, ?_⟩) | (guard_target =~ (planChk _ _ = true) ∧ _; refine ⟨by kernel_rfl, ?_⟩) | (guard_target =~ (_ ∧ _) ∧ _; refine ⟨by ((repeat (first | exact trivial | refine ⟨rfl, ?_⟩)); (first | done | fail)), ?_⟩) | refine ⟨by omega, ?_⟩ | refine ⟨szT, ?_⟩ | refine ⟨0, rfl, ?_⟩ | refine ⟨1, rfl, ?_⟩ | refine ⟨2, rfl, ?_⟩ | refine ⟨3, rfl, ?_⟩ | refine ⟨4, rfl, ?_⟩ | refine ⟨5, rfl, ?_⟩ | (refine cell_at1 (by assumption) ?_) | (refine cell_in1 omT (fun x hx => ?_)) | fail)) <;> (try (conv => whnf))
 (refine Ends.go ((ed, D', S')) ?_ [(0, some 0), (1, some 1), (2, some 2)] (Fit.q cvJrnWalk2 (by rfl) (by rfl)))
 exact hd
theorem start_ok (S : Nat → Prop) (D : DM) (hD : D.Ok) (pages salt : Int) (hp : 0 ≤ pages ∧ pages ≤ 4096) (hz : sizeD D jnN < 0) :
 CallOb Tryz.prog 20 [ptr 0, iv pages, .int .u64 salt] [(0, diskI S D)] 1 (fun v h m => ∃ x : Int × (Nat → Prop), x.1 = 0 ∧ v = .tuple #[ptr 10, iv x.1] ∧ h = [(0, diskI x.2 D), (10, .own 104 [ptr 0, iv pages, .int .u64 salt, .map (some 11), iv 0, iv 0]), (11, .mp (([] : List Int).map iv) (([] : List Int).map fun _ => Value.bool true))] ∧ m = 40) := by
 refine call_spec tabOk mixed Tryz.call20 Tryz.func20 rfl [] (fun x : Int × (Nat → Prop) => x.1 = 0) (fun x => .tuple #[ptr 10, iv x.1]) (fun x => [(0, diskI x.2 D), (10, .own 104 [ptr 0, iv pages, .int .u64 salt, .map (some 11), iv 0, iv 0]), (11, .mp (([] : List Int).map iv) (([] : List Int).map fun _ => Value.bool true))]) (fun _ => 40) ?_ ?_
 · exact (Nat.le_of_ble_eq_true rfl)
 (repeat' ((try (conv => whnf)); first | (guard_target =~ ∃ (_ : Value), ∃ (_ : HP), ∃ (_ : HP), _; refine ⟨_, _, _, rnJrnWalk1, ?_⟩; (try (dsimp only [Nat.reduceAdd, bC, bL]))) | (guard_target =~ CallOb _ 18 _ _ _ _; refine call_q (size_k S D hD jnN) [(0, some 0)] cvJrnWalk2 rfT rfT rfT (fun v h1 n1 hp => ?_); obtain ⟨sz, S, hsz, rfl, rfl, rfl⟩ := hp; rw [← hsz] at hz; (try (dsimp only [Nat.reduceAdd, bC, bL]))) | (with_reducible first | refine chk_in (Nat.ble_eq_true_of_le omT) ?_ | (refine ifB_in ?_ ?_ <;> intro hb <;> (try simp only [bN1, bN2, bN3, bN4, bN5, bN6, bN7, bN8, bN9, bN0] at hb) <;> (try (exfalso; omega))) | refine ⟨_, w64b _, ?_⟩ | refine ⟨_, w64 omT omT, ?_⟩ | refine ⟨_, wu64 omT omT, ?_⟩ | refine ⟨_, wu8 omT omT, ?_⟩ | refine ⟨_, w64 szT szT, ?_⟩ | refine ⟨_, rfl, ?_⟩ | refine ⟨rfl, ?_⟩) | intro cap | (with_reducible refine ⟨trivial, ?_⟩) | (guard_target =~ (planChk _ _ = true) ∧ _; refine ⟨by kernel_rfl, ?_⟩) | (guard_target =~ (_ ∧ _) ∧ _; refine ⟨by ((repeat (first | exact trivial | refine ⟨rfl, ?_⟩)); (first | done | fail)), ?_⟩) | refine ⟨by omega, ?_⟩ | refine ⟨szT, ?_⟩ | refine ⟨0, rfl, ?_⟩ | refine ⟨1, rfl, ?_⟩ | refine ⟨2, rfl, ?_⟩ | refine ⟨3, rfl, ?_⟩ | refine ⟨4, rfl, ?_⟩ | refine ⟨5, rfl, ?_⟩ | (refine cell_at1 (by assumption) ?_) | (refine cell_in1 omT (fun x hx => ?_)) | fail)) <;> (try (conv => whnf))
 (refine Ends.go ((0, S)) ?_ [(0, some 0), (10, some _), (11, some _)] (Fit.q cvJrnWalk2 (by rfl) (by rfl)))
 rfl
theorem start_no (S : Nat → Prop) (D : DM) (hD : D.Ok) (pages salt : Int) (hp : 0 ≤ pages ∧ pages ≤ 4096) (hz : 0 ≤ sizeD D jnN) :
 CallOb Tryz.prog 20 [ptr 0, iv pages, .int .u64 salt] [(0, diskI S D)] 1 (fun v h m => ∃ x : Int × (Nat → Prop), x.1 = 40 ∧ v = .tuple #[.pointer none, iv x.1] ∧ h = [(0, diskI x.2 D)] ∧ m = 40) := by
 refine call_spec tabOk mixed Tryz.call20 Tryz.func20 rfl [] (fun x : Int × (Nat → Prop) => x.1 = 40) (fun x => .tuple #[.pointer none, iv x.1]) (fun x => [(0, diskI x.2 D)]) (fun _ => 40) ?_ ?_
 · exact (Nat.le_of_ble_eq_true rfl)
 (repeat' ((try (conv => whnf)); first | (guard_target =~ ∃ (_ : Value), ∃ (_ : HP), ∃ (_ : HP), _; refine ⟨_, _, _, rnJrnWalk1, ?_⟩; (try (dsimp only [Nat.reduceAdd, bC, bL]))) | (guard_target =~ CallOb _ 18 _ _ _ _; refine call_q (size_k S D hD jnN) [(0, some 0)] cvJrnWalk2 rfT rfT rfT (fun v h1 n1 hp => ?_); obtain ⟨sz, S, hsz, rfl, rfl, rfl⟩ := hp; rw [← hsz] at hz; (try (dsimp only [Nat.reduceAdd, bC, bL]))) | (with_reducible first | refine chk_in (Nat.ble_eq_true_of_le omT) ?_ | (refine ifB_in ?_ ?_ <;> intro hb <;> (try simp only [bN1, bN2, bN3, bN4, bN5, bN6, bN7, bN8, bN9, bN0] at hb) <;> (try (exfalso; omega))) | refine ⟨_, w64b _, ?_⟩ | refine ⟨_, w64 omT omT, ?_⟩ | refine ⟨_, wu64 omT omT, ?_⟩ | refine ⟨_, wu8 omT omT, ?_⟩ | refine ⟨_, w64 szT szT, ?_⟩ | refine ⟨_, rfl, ?_⟩ | refine ⟨rfl, ?_⟩) | intro cap | (with_reducible refine ⟨trivial, ?_⟩) | (guard_target =~ (planChk _ _ = true) ∧ _; refine ⟨by kernel_rfl, ?_⟩) | (guard_target =~ (_ ∧ _) ∧ _; refine ⟨by ((repeat (first | exact trivial | refine ⟨rfl, ?_⟩)); (first | done | fail)), ?_⟩) | refine ⟨by omega, ?_⟩ | refine ⟨szT, ?_⟩ | refine ⟨0, rfl, ?_⟩ | refine ⟨1, rfl, ?_⟩ | refine ⟨2, rfl, ?_⟩ | refine ⟨3, rfl, ?_⟩ | refine ⟨4, rfl, ?_⟩ | refine ⟨5, rfl, ?_⟩ | (refine cell_at1 (by assumption) ?_) | (refine cell_in1 omT (fun x hx => ?_)) | fail)) <;> (try (conv => whnf))
 (refine Ends.go ((40, S)) ?_ [(0, some 0)] (Fit.q cvJrnWalk2 (by rfl) (by rfl)))
 rfl
end Go.Proofs.YtelolcagncgfpaaGreat
