/- The disk's laws: calls as acts; a disk behind acts. -/
import Derived.Test.YtdgmjjidkaafaaaDiskAwake
import Derived.Test.YtdgmjjidkaafaaaDiskLoad
import Derived.Test.YtdgmjjidkaafaaaEngX
namespace Go.Proofs.Ytdgmjjidkaafaaa
open Go.RowKit
set_option linter.unusedSimpArgs false
set_option linter.unusedVariables false
/-- An act: its kind, name, number, fill, length, fates. -/
abbrev ActT := Int × ByteArray × Int × Int × Int × (Value × Nat × List Int)
abbrev actV (y : ActT) : List Value := [iv y.1, .string y.2.1, iv y.2.2.1, .int .u8 y.2.2.2.1, iv y.2.2.2.2.1, rsl y.2.2.2.2.2.1]
/-- How it came in. -/
abbrev actW (y : ActT) : List Value := [iv y.1, .string y.2.1, iv y.2.2.1, .int .u8 y.2.2.2.1, iv y.2.2.2.2.1, y.2.2.2.2.2.1]
structure ActOk (y : ActT) : Prop where
  k : -9223372036854775808 ≤ y.1 ∧ y.1 ≤ 9223372036854775807
  n : -9223372036854775808 ≤ y.2.2.1 ∧ y.2.2.1 ≤ 9223372036854775807
  f : 0 ≤ y.2.2.2.1 ∧ y.2.2.2.1 ≤ 255
  l : -9223372036854775808 ≤ y.2.2.2.2.1 ∧ y.2.2.2.2.1 ≤ 9223372036854775807
  s : y.2.2.2.2.2.2.2.length ≤ 9223372036854775807
  v : ∃ p, y.2.2.2.2.2.1 = .slice p y.2.2.2.2.2.2.2.length y.2.2.2.2.2.2.1
def ActsAt (N : Nat) (L : List ActT) (w : World) : Prop := ∀ y ∈ L, SlcIn N w y.2.2.2.2.2.1 y.2.2.2.2.2.2.2.length y.2.2.2.2.2.2.1 (y.2.2.2.2.2.2.2.map iv)
abbrev actsI (N : Nat) (L : List ActT) : Itm := .abs false (fun b => b < N) (fun _ => ActsAt N L)
theorem ActsAt.stab (N : Nat) (L : List ActT) : Stab (fun b => b < N) (ActsAt N L) := fun w w' _ h H y hy => (H y hy).same h
def dlen (n : Int) : Nat := (IntKind.u64.wrap n % 700).toNat
noncomputable def doesD (y : ActT) (D : DM) : (ByteArray × Int) × DM :=
  if y.1 = 1 then readD D y.2.1 y.2.2.1
  else if y.1 = 2 then (((⟨#[]⟩ : ByteArray), (writeD D y.2.1 y.2.2.1 (pgS (dlen y.2.2.2.2.1) y.2.2.2.1)).1), (writeD D y.2.1 y.2.2.1 (pgS (dlen y.2.2.2.2.1) y.2.2.2.1)).2)
  else if y.1 = 3 then (((⟨#[]⟩ : ByteArray), (syncD D y.2.1).1), (syncD D y.2.1).2)
  else if y.1 = 4 then (((⟨#[]⟩ : ByteArray), (cutD D y.2.1 y.2.2.1).1), (cutD D y.2.1 y.2.2.1).2)
  else if y.1 = 5 then (((⟨#[]⟩ : ByteArray), (dropD D y.2.1).1), (dropD D y.2.1).2)
  else if y.1 = 6 then (((⟨#[]⟩ : ByteArray), 0), roomD D y.2.2.1)
  else if y.1 = 7 then (((⟨#[]⟩ : ByteArray), 0), armD D y.2.2.1 y.2.2.2.1 y.2.2.2.2.1)
  else if y.1 = 8 then (((⟨#[]⟩ : ByteArray), 0), offD D)
  else if y.1 = 9 then (((⟨#[]⟩ : ByteArray), 0), onD D y.2.2.2.2.2.2.2)
  else if y.1 = 10 then (((⟨#[]⟩ : ByteArray), (loadD D y.2.1 (pgS (dlen y.2.2.2.2.1) y.2.2.2.1)).1), (loadD D y.2.1 (pgS (dlen y.2.2.2.2.1) y.2.2.2.1)).2)
  else (((⟨#[]⟩ : ByteArray), 0), D)
theorem does_okN {y : ActT} (hy : ActOk y) {D : DM} {n : Int} (h : D.OkN n) : (doesD y D).2.OkN (n + 1) := by
  have h1 : n ≤ n + 1 := by omega
  unfold doesD
  split
  · exact read_okN h _ _
  split
  · exact write_okN h _ _ _
  split
  · exact sync_okN h _
  split
  · exact cut_okN h _ _
  split
  · exact drop_okN h _
  split
  · exact (room_okN h _).mono h1
  split
  · exact (arm_okN h (by have := hy.f; omega) hy.l hy.n.2).mono h1
  split
  · exact off_okN h
  split
  · exact (on_okN h _).mono h1
  split
  · exact (load_okN h _ _).mono h1
  · exact h.mono h1
attribute [local irreducible] bytesOf strOf strEq strLt sfrom begS pgS awD newD armD onD
theorem ivs_flat (l : List Int) : ∀ u ∈ l.map iv, flat1 u = true := fun u hu => by obtain ⟨x, _, rfl⟩ := List.mem_map.1 hu; rfl
theorem cvDiskActs1 {p : Prop} (h : p := by have nw := True.intro; (repeat' (first | exact True.intro | (with_reducible exact rfl) | (with_reducible exact AbsLe.refl) | (guard_target =~ @Eq Nat _ _; first | exact rfl | omega) | (guard_target =~ List.map _ _ = []; exact rfl) | (first | exact covL_still rfl hvs | exact covL_still rfl (still_map (fun _ => rfl) _) | exact covL_still rfl (still_map ro_still _) | (apply covL_set <;> (try clear nw) <;> have nw := True.intro) | exact congrArg (Value.int _) (by (try dsimp only); omega)) | (exact congrArg (Value.int _) (by omega)) | (exact covL_flat (flat_map (fun _ => rfl) _)) | (exact covL_flat flat_nil) | (refine covP_all ?_; (try clear nw); have nw := True.intro) | (refine covL_each ?_; (try clear nw); have nw := True.intro) | (refine ⟨?_, ?_⟩ <;> (try clear nw) <;> have nw := True.intro) | (guard_hyp nw : True; ((conv => whnf) <;> clear nw)))); (first | done | fail)) : p := h
theorem rnDiskActs2 {p : Prop} (h : p := by refine ⟨?_, ?_, ?_⟩; (first | apply rR_tuple | apply rR_one rfl | exact rfl); all_goals (repeat' (first | (with_reducible (first | exact relH_nil | apply rn_lst | apply rn_own | apply rn_mp | apply rn_row | apply rn_abs | exact wo_nil)) | apply wo_keep rfl | apply wo_drop rfl | exact relH_nil | exact r1_flat rfl | exact r0_flat rfl | exact rl_nil | exact wo_nil | exact bk_old rfl | exact bk_new rfl | exact bk_nil rfl | apply rl_cons | (first | exact relL_still hvs | exact relL_still (still_map (fun _ => rfl) _) | exact relL_still (still_map ro_still _) | exact relL_flat (flat_map (fun _ => rfl) _) | apply relL_set) | exact relL_flat (flat_map (fun _ => rfl) _) | exact relL_flat flat_nil | apply relL_to | apply rn_lst | apply rn_own | apply rn_mp | apply rn_row | apply relH_view rfl | apply relH_lview rfl | apply relH_fact rfl | exact r1_rig | exact r0_rig | exact r1_rigs | exact r0_rigs | apply wo_keep rfl | apply wo_drop rfl | apply r1_agg | apply rn_ptr | apply rn_slice | apply rn_slice0 | apply rn_iface | apply rn_map | apply rn_ifacem | apply r0_map | apply r0_ifacem | apply r0_ptr | apply r0_slice | apply r0_slice0 | apply r0_iface)); (first | done | fail)) : p := h
theorem on_2 (S : Nat → Prop) (D : DM) (hD : D.Ok) (l : List Int) (cap : Nat) (hl : l.length ≤ 9223372036854775807) :
    CallOb Try.prog 22 [ptr 0, mslice 2 l.length cap] [(0, diskI S D), (2, .lview (l.map iv))] 3 (fun v h n => ∃ (D' : DM) (S' : Nat → Prop), D' = onD D l ∧ v = .tuple ([] : List Value).toArray ∧ h = [(0, diskI S' D')] ∧ n = 30) := by
  have step : CallOb Try.prog 22 [ptr 0, mslice 2 l.length cap] [(0, diskI S D), (2, .lview (l.map iv))] 3 (fun v h n => ∃ (D' : DM) (S' : Nat → Prop), D' = onD D l ∧ v = .tuple ([] : List Value).toArray ∧ h = [(0, diskI S' D'), (2, .lview (l.map iv))] ∧ n = 23) := by
    refine call_q (on_c S D hD l cap hl) [(0, some 0), (1, some 2)] cvDiskActs1 (by rfl) (by rfl) (by rfl) (fun v h1 n1 hp => ?_)
    obtain ⟨_, D', S', hr, rfl, rfl, rfl⟩ := hp
    refine ⟨_, _, _, rnDiskActs2, ?_⟩
    exact ⟨D', S', hr, rfl, rfl, rfl⟩
  refine step.conv ?_
  rintro v h1 n1 ⟨D', S', hr, rfl, rfl, rfl⟩ F B w0 m w c H hv
  exact ⟨m, _, [(0, diskI S' D')], 30, BM.le_refl m, hv, (H.sub_of (h' := [(0, diskI S' D')]) fun i it e => by
    have := lkH_mem e
    simp only [List.mem_cons, Prod.mk.injEq, List.not_mem_nil, or_false] at this
    obtain ⟨rfl, rfl⟩ := this
    rfl).up (BM.le_refl m) H.fn (fun i g s x => Nat.lt_of_lt_of_le (H.fresh i g s x) (by decide)), D', S', hr, rfl, rfl, rfl⟩
/-- The power is there again; the fates stand inside what came in. -/
theorem on_r (S : Nat → Prop) (D : DM) (hD : D.Ok) (N : Nat) (L : List ActT) (y : ActT) (hy : y ∈ L) (hok : ActOk y) :
    CallOb Try.prog 22 [ptr 0, rsl y.2.2.2.2.2.1] [(0, diskI S D), (1, actsI N L)] 2 (fun v h n => ∃ (D' : DM) (S' : Nat → Prop), D' = onD D y.2.2.2.2.2.2.2 ∧ v = .tuple ([] : List Value).toArray ∧ h = [(0, diskI S' D')] ∧ n = 30) := by
  obtain ⟨p, hp⟩ := hok.v
  refine CallOb.pre Try.call22 fun F B w0 m w cs H hcs => ?_
  match cs, hcs with
  | [c, d], ⟨h0, h1, _⟩ =>
    obtain ⟨m', hle, H', hv⟩ := H.seeAbs (i := 1) (N := N) (Φ := fun _ => ActsAt N L) rfl (fun _ h => h y hy) (ivs_flat _)
    have hd : d = y.2.2.2.2.2.1 := by
      rw [hp] at h1 ⊢
      have h2 : V1 m (rsl (.slice p y.2.2.2.2.2.2.2.length y.2.2.2.2.2.2.1)) d := by cases p <;> exact h1
      have h3 : V0 m (rsl (.slice p y.2.2.2.2.2.2.2.length y.2.2.2.2.2.2.1)) d := by cases p <;> exact (V1.of0 rfl).1 h2
      exact rsl_V0.1 h3
    subst hd
    exact ⟨m', [ptr 0, mslice 2 y.2.2.2.2.2.2.2.length y.2.2.2.2.2.2.1], _, 3, hle, H'.sub_of (h' := [(0, diskI S D), (2, .lview (y.2.2.2.2.2.2.2.map iv))]) (fun i it e => by
      have := lkH_mem e
      simp only [List.mem_cons, Prod.mk.injEq, List.not_mem_nil, or_false] at this
      rcases this with ⟨rfl, rfl⟩ | ⟨rfl, rfl⟩ <;> rfl), ⟨h0.mono hle, (VR.of0 rfl).2 hv, trivial⟩, on_2 S D hD _ _ hok.s⟩
structure WD where
  i : Nat
  L : List UInt8
theorem cvDiskActs3 {p : Prop} (h : p := by have nw := True.intro; (repeat' (first | exact True.intro | (with_reducible exact rfl) | (with_reducible exact AbsLe.refl) | (guard_target =~ @Eq Nat _ _; first | exact rfl | omega) | (guard_target =~ List.map _ _ = []; exact rfl) | (first | exact covL_of (noughts_cells _) (flat_map (fun _ => rfl) _) | exact covL_of (put_byte (u8_int hok.f)) (flat_map (fun _ => rfl) _) | first | exact covL_still rfl hvs | exact covL_still rfl (still_map (fun _ => rfl) _) | exact covL_still rfl (still_map ro_still _) | (apply covL_set <;> (try clear nw) <;> have nw := True.intro) | exact congrArg (Value.int _) (by (try dsimp only); omega)) | (exact congrArg (Value.int _) (by omega)) | (exact covL_flat (flat_map (fun _ => rfl) _)) | (exact covL_flat flat_nil) | (refine covP_all ?_; (try clear nw); have nw := True.intro) | (refine covL_each ?_; (try clear nw); have nw := True.intro) | (refine ⟨?_, ?_⟩ <;> (try clear nw) <;> have nw := True.intro) | (guard_hyp nw : True; ((conv => whnf) <;> clear nw)))); (first | done | fail)) : p := h
set_option maxRecDepth 100000 in
theorem data_c (y : ActT) (hok : ActOk y) :
    CallOb Try.prog 47 [.agg (actV y).toArray] [] 0 (fun v hh m => ∃ z : ByteArray, z = pgS (dlen y.2.2.2.2.1) y.2.2.2.1 ∧ v = .string z ∧ hh = [] ∧ m = 0) := by
  refine call_spec tabOk mixed Try.call47 Try.func47 rfl [] (fun z : ByteArray => z = pgS (dlen y.2.2.2.2.1) y.2.2.2.1) (fun z => .string z) (fun _ => []) (fun _ => 0) ?_ ?_
  · exact (Nat.le_of_ble_eq_true rfl)
  obtain ⟨r, hr⟩ : ∃ r, r = IntKind.u64.wrap y.2.2.2.2.1 := ⟨_, rfl⟩
  have hr0 : 0 ≤ r ∧ r ≤ 18446744073709551615 := by rw [hr, IntKind.wrap_u64]; omega
  obtain ⟨n, hn⟩ : ∃ n, n = dlen y.2.2.2.2.1 := ⟨_, rfl⟩
  have hn0 : n < 700 := by rw [hn]; unfold dlen; rw [← hr]; omega
  have hnr : r.tmod 700 = (n : Nat) := by rw [hn]; unfold dlen; rw [← hr, Int.tmod_eq_emod_of_nonneg hr0.1]; omega
  obtain ⟨p, hp⟩ := hok.v
  obtain ⟨kind, name, num, fill, len, fv, cap, F⟩ := y
  dsimp only at hr hn hok hp ⊢
  subst hp
  (repeat' ((try (conv => whnf)); first | (guard_target =~ ∃ (_ : Value), ∃ (_ : HP), ∃ (_ : HP), _; refine ⟨_, _, _, rnDiskActs2, ?_⟩; (try (dsimp only [Nat.reduceAdd, List.cons_append, List.nil_append]))) | (guard_target =~ ∃ r, r = IntKind.wrap .u64 _ ∧ _; refine ⟨r, hr, ?_⟩) | (guard_target =~ ∃ q, q = Int.tmod _ _ ∧ _; refine ⟨(n : Nat), hnr.symm, ?_⟩) | (with_reducible refine ⟨n, n, by omega, by omega, Nat.le_refl _, by omega, by omega, ?_⟩) | (guard_target =~ LoopOb _ _ _ _ _ _ _ _; refine loop_rule tabOk mixed [(5, [(0, true), (1, true), (2, true), (3, true), (4, true), (5, true), (6, false), (1007, false), (8, true), (9, true)]), (21, [(0, true), (1, true), (2, true), (3, true), (4, false), (1005, false), (6, true), (7, true)])] 2 (fun k => [(1, ptr 0), (3, iv (n : Nat)), (4, .slice (some ⟨1, 0, none⟩) n n), (5, iv (WD.i k : Nat))]) (fun k => [(0, .own 45 [iv kind, .string name, iv num, .int .u8 fill, iv len, .slice (some ⟨wcode p, 0, some 3⟩) F.length cap]), (1, .row 5 1 n ((WD.L k).map byteV'))]) (fun k => n - WD.i k) (fun k => WD.i k ≤ n ∧ Pge n (UInt8.ofNat fill.toNat) (WD.L k) (WD.i k)) (⟨0, List.replicate n 0⟩) (⟨Nat.zero_le _, ⟨List.length_replicate, fun j hj => absurd hj (Nat.not_lt_zero _)⟩⟩) ⟨[(0, some 0), (1, some 1)], Sub.q cvDiskActs3 (by rfl) (by rfl)⟩ (fun k hk => ?_)) | (rcases k with ⟨i, L⟩; dsimp only at hk ⊢) | (refine ⟨row_take hk.2.len, hk.2.len, ?_⟩) | (refine cell_in1 (by omega) (fun y hy => ?_)) | (with_reducible refine chk_in (Nat.ble_eq_true_of_le (by omega)) ?_) | (with_reducible refine ifB_in ?_ ?_ <;> intro hb <;> (try simp only [decide_eq_true_eq, decide_eq_false_iff_not, Int.not_lt, Int.not_le, ne_eq, Decidable.not_not, Bool.not_eq_true', Bool.not_eq_false', gt_iff_lt, ge_iff_le] at hb) <;> (try (exfalso; omega))) | (with_reducible refine ⟨_, w64b _, ?_⟩) | (with_reducible refine ⟨_, w64 (by omega) (by omega), ?_⟩) | (with_reducible refine ⟨_, wu64 (by omega) (by omega), ?_⟩) | (with_reducible refine ⟨_, wu8 (by omega) (by omega), ?_⟩) | (with_reducible refine ⟨_, w64 (by (simp only [size_sfrom, ByteArray.size_extract, ByteArray.size_append, strOf_size, fixedL_length, lit_size, List.size_toArray, List.length_cons, List.length_nil, List.length_append, List.length_replicate]; omega)) (by (simp only [size_sfrom, ByteArray.size_extract, ByteArray.size_append, strOf_size, fixedL_length, lit_size, List.size_toArray, List.length_cons, List.length_nil, List.length_append, List.length_replicate]; omega)), ?_⟩) | (with_reducible refine ⟨_, rfl, ?_⟩) | (with_reducible refine ⟨rfl, ?_⟩) | (intro cap) | (with_reducible refine ⟨trivial, ?_⟩) | (guard_target =~ (planChk _ _ = true) ∧ _; refine ⟨by kernel_rfl, ?_⟩) | (guard_target =~ (_ ∧ _) ∧ _; refine ⟨by ((repeat (first | exact trivial | refine ⟨rfl, ?_⟩)); (first | done | fail)), ?_⟩) | (refine ⟨by omega, ?_⟩) | (refine ⟨by (simp only [size_sfrom, ByteArray.size_extract, ByteArray.size_append, strOf_size, fixedL_length, lit_size, List.size_toArray, List.length_cons, List.length_nil, List.length_append, List.length_replicate]; omega), ?_⟩) | (refine ⟨0, rfl, ?_⟩) | (refine ⟨1, rfl, ?_⟩) | (refine ⟨2, rfl, ?_⟩) | (refine ⟨3, rfl, ?_⟩) | (refine ⟨4, rfl, ?_⟩) | (refine ⟨5, rfl, ?_⟩) | (refine cell_at1 (by assumption) ?_) | (refine cell_in1 (by omega) (fun x hx => ?_)) | fail)) <;> (try (conv => whnf))
  all_goals first
    | ((refine Again.go ((⟨i + 1, L.set i (UInt8.ofNat fill.toNat)⟩ : WD)) ?_ (by (try dsimp only); omega) [(0, some 0), (1, some 1)] (Sub.q cvDiskActs3 (by rfl) (by rfl))); exact ⟨by dsimp only; omega, hk.2.set (by omega)⟩)
    | ((refine Ends.go (strOf L) ?_ [] (Fit.q cvDiskActs3 (by rfl) (by rfl))); rw [← hn]; unfold pgS; rw [hk.2.done (by omega)])
    | (exfalso; exact absurd ((blt_len (L := L) (f := byteV') (i := i) (by rw [hk.2.len]; omega)).symm.trans hb) (by decide))
    | trace_state
/-! A call by its act. -/
theorem pgS_fit (y : ActT) : (pgS (dlen y.2.2.2.2.1) y.2.2.2.1).size ≤ 4611686018427387904 := by
  rw [pgS_size]
  unfold dlen
  rw [IntKind.wrap_u64]
  omega
theorem doesD_is (y : ActT) (D : DM) (k : Int) (h : y.1 = k) : (k = 1 → doesD y D = readD D y.2.1 y.2.2.1) ∧ (k = 2 → doesD y D = (((⟨#[]⟩ : ByteArray), (writeD D y.2.1 y.2.2.1 (pgS (dlen y.2.2.2.2.1) y.2.2.2.1)).1), (writeD D y.2.1 y.2.2.1 (pgS (dlen y.2.2.2.2.1) y.2.2.2.1)).2)) ∧
    (k = 3 → doesD y D = (((⟨#[]⟩ : ByteArray), (syncD D y.2.1).1), (syncD D y.2.1).2)) ∧ (k = 4 → doesD y D = (((⟨#[]⟩ : ByteArray), (cutD D y.2.1 y.2.2.1).1), (cutD D y.2.1 y.2.2.1).2)) ∧ (k = 5 → doesD y D = (((⟨#[]⟩ : ByteArray), (dropD D y.2.1).1), (dropD D y.2.1).2)) ∧
    (k = 6 → doesD y D = (((⟨#[]⟩ : ByteArray), 0), roomD D y.2.2.1)) ∧ (k = 7 → doesD y D = (((⟨#[]⟩ : ByteArray), 0), armD D y.2.2.1 y.2.2.2.1 y.2.2.2.2.1)) ∧ (k = 8 → doesD y D = (((⟨#[]⟩ : ByteArray), 0), offD D)) ∧ (k = 9 → doesD y D = (((⟨#[]⟩ : ByteArray), 0), onD D y.2.2.2.2.2.2.2)) ∧
    (k = 10 → doesD y D = (((⟨#[]⟩ : ByteArray), (loadD D y.2.1 (pgS (dlen y.2.2.2.2.1) y.2.2.2.1)).1), (loadD D y.2.1 (pgS (dlen y.2.2.2.2.1) y.2.2.2.1)).2)) ∧ (k ≠ 1 → k ≠ 2 → k ≠ 3 → k ≠ 4 → k ≠ 5 → k ≠ 6 → k ≠ 7 → k ≠ 8 → k ≠ 9 → k ≠ 10 → doesD y D = (((⟨#[]⟩ : ByteArray), 0), D)) := by
  subst h
  refine ⟨fun h => ?_, fun h => ?_, fun h => ?_, fun h => ?_, fun h => ?_, fun h => ?_, fun h => ?_, fun h => ?_, fun h => ?_, fun h => ?_, fun h1 h2 h3 h4 h5 h6 h7 h8 h9 h10 => ?_⟩
  all_goals (unfold doesD; simp_all)
attribute [local irreducible] doesD dlen
theorem cov_rsl {np : Nat} {L : IdMap} {v : Value} (h : ∃ p l k, v = .slice p l k) : cov0 np L (rsl v) (rsl v) := by
  obtain ⟨p, l, k, rfl⟩ := h
  exact ⟨rfl, rfl, rfl, rfl, rfl⟩
theorem cvDiskActs4 {p : Prop} (h : p := by have nw := True.intro; (repeat' (first | exact True.intro | (with_reducible exact rfl) | (with_reducible exact AbsLe.refl) | (guard_target =~ @Eq Nat _ _; first | exact rfl | omega) | (guard_target =~ List.map _ _ = []; exact rfl) | (first | exact covL_still rfl (fun v hv => by simp only [List.mem_cons, List.not_mem_nil, or_false] at hv; rcases hv with rfl | rfl | rfl | rfl | rfl | rfl <;> first | rfl | exact hst) | (guard_target =~ cov0 _ _ (rsl _) (rsl _); exact cov_rsl hsv) | (guard_target =~ cov1 _ _ (rsl _) (rsl _); exact cov_rsl hsv) | (guard_target =~ covR _ _ (rsl _) (rsl _); exact cov_rsl hsv) | first | exact covL_still rfl hvs | exact covL_still rfl (still_map (fun _ => rfl) _) | exact covL_still rfl (still_map ro_still _) | (apply covL_set <;> (try clear nw) <;> have nw := True.intro) | exact congrArg (Value.int _) (by (try dsimp only); omega)) | (exact congrArg (Value.int _) (by omega)) | (exact covL_flat (flat_map (fun _ => rfl) _)) | (exact covL_flat flat_nil) | (refine covP_all ?_; (try clear nw); have nw := True.intro) | (refine covL_each ?_; (try clear nw); have nw := True.intro) | (refine ⟨?_, ?_⟩ <;> (try clear nw) <;> have nw := True.intro) | (guard_hyp nw : True; ((conv => whnf) <;> clear nw)))); (first | done | fail)) : p := h
set_option maxRecDepth 100000 in
set_option maxHeartbeats 4000000 in
theorem does_c (S : Nat → Prop) (D : DM) (hD : D.Ok) (N : Nat) (L : List ActT) (y : ActT) (hy : y ∈ L) (hok : ActOk y) :
    CallOb Try.prog 25 [ptr 0, .agg (actV y).toArray] [(0, diskI S D), (1, actsI N L)] 2 (fun v h m => ∃ (z : (ByteArray × Int) × DM × (Nat → Prop)), (z.1, z.2.1) = doesD y D ∧ v = .tuple #[.string z.1.1, iv z.1.2] ∧ h = [(0, diskI z.2.2 z.2.1)] ∧ m = 40) := by
  refine call_spec tabOk mixed Try.call25 Try.func25 rfl [(5, [(0, true), (1, true), (2, true), (3, true), (4, true), (5, true), (6, false), (1007, false), (8, true), (9, true)]), (21, [(0, true), (1, true), (2, true), (3, true), (4, false), (1005, false), (6, true), (7, true)])] (fun z : (ByteArray × Int) × DM × (Nat → Prop) => (z.1, z.2.1) = doesD y D) (fun z => .tuple #[.string z.1.1, iv z.1.2]) (fun z => [(0, diskI z.2.2 z.2.1)]) (fun _ => 40) ?_ ?_
  · exact (Nat.le_of_ble_eq_true rfl)
  have hdo := doesD_is y D y.1 rfl
  obtain ⟨p, hp⟩ := hok.v
  have hff := hok.f
  obtain ⟨kind, name, num, fill, len, fv, cap, F⟩ := y
  dsimp only at hp hdo hff
  subst hp
  obtain ⟨d1, d2, d3, d4, d5, d6, d7, d8, d9, d10, d11⟩ := hdo
  (repeat' ((try (conv => whnf)); first | (guard_target =~ ∃ (_ : Value), ∃ (_ : HP), ∃ (_ : HP), _; refine ⟨_, _, _, rnDiskActs2, ?_⟩; (try (dsimp only [Nat.reduceAdd, List.cons_append, List.nil_append]))) | (guard_target =~ CallOb _ 47 _ _ _ _; refine call_q (data_c (kind, name, num, fill, len, _, cap, F) hok) [] cvDiskActs4 (by rfl) (by rfl) (by rfl) (fun v h1 n1 hp => ?_); obtain ⟨zd, hzd, rfl, rfl, rfl⟩ := hp; (try (dsimp only [Nat.reduceAdd, List.cons_append, List.nil_append]))) | (guard_target =~ CallOb _ 20 _ _ _ _; refine call_q (read_c S D hD name num hok.n) [(0, some 0)] cvDiskActs4 (by rfl) (by rfl) (by rfl) (fun v h1 n1 hp => ?_); obtain ⟨⟨sa, ea⟩, D2, S2, hr, rfl, rfl, rfl⟩ := hp; dsimp only; (try (dsimp only [Nat.reduceAdd, List.cons_append, List.nil_append]))) | (guard_target =~ CallOb _ 10 _ _ _ _; refine call_q (write_c S D hD name num zd hok.n) [(0, some 0)] cvDiskActs4 (by rfl) (by rfl) (by rfl) (fun v h1 n1 hp => ?_); obtain ⟨ea, D2, S2, hr, rfl, rfl, rfl⟩ := hp; (try (dsimp only [Nat.reduceAdd, List.cons_append, List.nil_append]))) | (guard_target =~ CallOb _ 15 _ _ _ _; refine call_q (sync_c S D hD name) [(0, some 0)] cvDiskActs4 (by rfl) (by rfl) (by rfl) (fun v h1 n1 hp => ?_); obtain ⟨ea, D2, S2, hr, rfl, rfl, rfl⟩ := hp; (try (dsimp only [Nat.reduceAdd, List.cons_append, List.nil_append]))) | (guard_target =~ CallOb _ 14 _ _ _ _; refine call_q (cut_c S D hD name num hok.n) [(0, some 0)] cvDiskActs4 (by rfl) (by rfl) (by rfl) (fun v h1 n1 hp => ?_); obtain ⟨ea, D2, S2, hr, rfl, rfl, rfl⟩ := hp; (try (dsimp only [Nat.reduceAdd, List.cons_append, List.nil_append]))) | (guard_target =~ CallOb _ 48 _ _ _ _; refine call_q (drop_c S D hD name) [(0, some 0)] cvDiskActs4 (by rfl) (by rfl) (by rfl) (fun v h1 n1 hp => ?_); obtain ⟨ea, D2, S2, hr, rfl, rfl, rfl⟩ := hp; (try (dsimp only [Nat.reduceAdd, List.cons_append, List.nil_append]))) | (guard_target =~ CallOb _ 35 _ _ _ _; refine call_q (room_c S D hD num hok.n) [(0, some 0)] cvDiskActs4 (by rfl) (by rfl) (by rfl) (fun v h1 n1 hp => ?_); obtain ⟨_, D2, S2, hr, rfl, rfl, rfl⟩ := hp; (try (dsimp only [Nat.reduceAdd, List.cons_append, List.nil_append]))) | (guard_target =~ CallOb _ 12 _ _ _ _; refine call_q (arm_c S D hD num fill len hok.n) [(0, some 0)] cvDiskActs4 (by rfl) (by rfl) (by rfl) (fun v h1 n1 hp => ?_); obtain ⟨_, D2, S2, hr, rfl, rfl, rfl⟩ := hp; (try (dsimp only [Nat.reduceAdd, List.cons_append, List.nil_append]))) | (guard_target =~ CallOb _ 21 _ _ _ _; refine call_q (offd_c S D hD) [(0, some 0)] cvDiskActs4 (by rfl) (by rfl) (by rfl) (fun v h1 n1 hp => ?_); obtain ⟨_, D2, S2, hr, rfl, rfl, rfl⟩ := hp; (try (dsimp only [Nat.reduceAdd, List.cons_append, List.nil_append]))) | (guard_target =~ CallOb _ 22 _ _ _ _; refine call_q (on_r S D hD N L (kind, name, num, fill, len, _, cap, F) hy hok) [(0, some 0), (1, some 1)] cvDiskActs4 (by rfl) (by rfl) (by rfl) (fun v h1 n1 hp => ?_); obtain ⟨D2, S2, hr, rfl, rfl, rfl⟩ := hp; (try (dsimp only [Nat.reduceAdd, List.cons_append, List.nil_append]))) | (guard_target =~ CallOb _ 49 _ _ _ _; refine call_q (load_c S D hD name zd) [(0, some 0)] cvDiskActs4 (by rfl) (by rfl) (by rfl) (fun v h1 n1 hp => ?_); obtain ⟨ea, D2, S2, hr, rfl, rfl, rfl⟩ := hp; (try (dsimp only [Nat.reduceAdd, List.cons_append, List.nil_append]))) | (with_reducible refine chk_in (Nat.ble_eq_true_of_le (by omega)) ?_) | (with_reducible refine ifB_in ?_ ?_ <;> intro hb <;> (try simp only [decide_eq_true_eq, decide_eq_false_iff_not, Int.not_lt, Int.not_le, ne_eq, Decidable.not_not, Bool.not_eq_true', Bool.not_eq_false', gt_iff_lt, ge_iff_le] at hb) <;> (try (exfalso; omega))) | (with_reducible refine ⟨_, w64b _, ?_⟩) | (with_reducible refine ⟨_, w64 (by omega) (by omega), ?_⟩) | (with_reducible refine ⟨_, wu64 (by omega) (by omega), ?_⟩) | (with_reducible refine ⟨_, wu8 (by omega) (by omega), ?_⟩) | (with_reducible refine ⟨_, w64 (by (simp only [size_sfrom, ByteArray.size_extract, ByteArray.size_append, strOf_size, fixedL_length, lit_size, List.size_toArray, List.length_cons, List.length_nil, List.length_append, List.length_replicate]; omega)) (by (simp only [size_sfrom, ByteArray.size_extract, ByteArray.size_append, strOf_size, fixedL_length, lit_size, List.size_toArray, List.length_cons, List.length_nil, List.length_append, List.length_replicate]; omega)), ?_⟩) | (with_reducible refine ⟨_, rfl, ?_⟩) | (with_reducible refine ⟨rfl, ?_⟩) | (intro cap) | (with_reducible refine ⟨trivial, ?_⟩) | (guard_target =~ (planChk _ _ = true) ∧ _; refine ⟨by kernel_rfl, ?_⟩) | (guard_target =~ (_ ∧ _) ∧ _; refine ⟨by ((repeat (first | exact trivial | refine ⟨rfl, ?_⟩)); (first | done | fail)), ?_⟩) | (refine ⟨by omega, ?_⟩) | (refine ⟨by (simp only [size_sfrom, ByteArray.size_extract, ByteArray.size_append, strOf_size, fixedL_length, lit_size, List.size_toArray, List.length_cons, List.length_nil, List.length_append, List.length_replicate]; omega), ?_⟩) | (refine ⟨0, rfl, ?_⟩) | (refine ⟨1, rfl, ?_⟩) | (refine ⟨2, rfl, ?_⟩) | (refine ⟨3, rfl, ?_⟩) | (refine ⟨4, rfl, ?_⟩) | (refine ⟨5, rfl, ?_⟩) | (refine cell_at1 (by assumption) ?_) | (refine cell_in1 (by omega) (fun x hx => ?_)) | fail)) <;> (try (conv => whnf))
  all_goals first
    | ((refine Ends.go ((((sa, ea), D2, S2) : (ByteArray × Int) × DM × (Nat → Prop))) ?_ [] (Fit.q cvDiskActs4 (by rfl) (by rfl))); exact hr.trans (d1 hb).symm)
    | ((refine Ends.go ((((⟨#[]⟩, ea), D2, S2) : (ByteArray × Int) × DM × (Nat → Prop))) ?_ [] (Fit.q cvDiskActs4 (by rfl) (by rfl))); rw [d2 hb, ← hzd, ← hr])
    | ((refine Ends.go ((((⟨#[]⟩, ea), D2, S2) : (ByteArray × Int) × DM × (Nat → Prop))) ?_ [] (Fit.q cvDiskActs4 (by rfl) (by rfl))); rw [d3 hb, ← hr])
    | ((refine Ends.go ((((⟨#[]⟩, ea), D2, S2) : (ByteArray × Int) × DM × (Nat → Prop))) ?_ [] (Fit.q cvDiskActs4 (by rfl) (by rfl))); rw [d4 hb, ← hr])
    | ((refine Ends.go ((((⟨#[]⟩, ea), D2, S2) : (ByteArray × Int) × DM × (Nat → Prop))) ?_ [] (Fit.q cvDiskActs4 (by rfl) (by rfl))); rw [d5 hb, ← hr])
    | ((refine Ends.go ((((⟨#[]⟩, ea), D2, S2) : (ByteArray × Int) × DM × (Nat → Prop))) ?_ [] (Fit.q cvDiskActs4 (by rfl) (by rfl))); rw [d10 hb, ← hzd, ← hr])
    | ((refine Ends.go ((((⟨#[]⟩, 0), D2, S2) : (ByteArray × Int) × DM × (Nat → Prop))) ?_ [] (Fit.q cvDiskActs4 (by rfl) (by rfl))); rw [d6 hb, ← hr])
    | ((refine Ends.go ((((⟨#[]⟩, 0), D2, S2) : (ByteArray × Int) × DM × (Nat → Prop))) ?_ [] (Fit.q cvDiskActs4 (by rfl) (by rfl))); rw [d7 hb, ← hr])
    | ((refine Ends.go ((((⟨#[]⟩, 0), D2, S2) : (ByteArray × Int) × DM × (Nat → Prop))) ?_ [] (Fit.q cvDiskActs4 (by rfl) (by rfl))); rw [d8 hb, ← hr])
    | ((refine Ends.go ((((⟨#[]⟩, 0), D2, S2) : (ByteArray × Int) × DM × (Nat → Prop))) ?_ [] (Fit.q cvDiskActs4 (by rfl) (by rfl))); rw [d9 hb, ← hr])
    | ((refine Ends.go ((((⟨#[]⟩, 0), D, S) : (ByteArray × Int) × DM × (Nat → Prop))) ?_ [] (Fit.q cvDiskActs4 (by rfl) (by rfl))); exact (d11 ‹_› ‹_› ‹_› ‹_› ‹_› ‹_› ‹_› ‹_› ‹_› ‹_›).symm)
    | trace_state
end Go.Proofs.Ytdgmjjidkaafaaa
