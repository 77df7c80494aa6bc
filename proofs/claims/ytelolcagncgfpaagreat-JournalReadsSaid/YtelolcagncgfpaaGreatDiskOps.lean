/- The disk: a sector is read; what waits is made safe; a file is cut. The disk: a file is gone; what is armed; the room; what is asked of the disk's numbers. -/
import Derived.Test.YtelolcagncgfpaaGreatDiskAbs
namespace Go.Proofs.YtelolcagncgfpaaGreat
open Go.RowKit
set_option linter.unusedSimpArgs false
set_option linter.unusedVariables false
attribute [local irreducible] bytesOf strOf strEq strLt sfrom begS
def ReadR (k : Dk) (s : ByteArray) (i : Int) (E : EL) (C : CM) (a : ByteArray × Int) (k' : Dk) (o : Foc) : Prop :=
 (o = none ∧ FoundR k s true E (a.2, k', none) ∧ a.2 ≠ 0 ∧ a.1 = ⟨#[]⟩) ∨
 ∃ (q : Nat) (L : LF) (X : Fl), o = some (q, fxOf L X, X) ∧ FoundR k s true E (0, k', some L) ∧ E[q]? = some (s, L, X) ∧ FxOk C (fxOf L X) X ∧ a = readF X i
theorem rnDiskOps1 {p : Prop} (h : p := by refine ⟨?_, ?_, ?_⟩; (first | apply rR_tuple | apply rR_one rfl | exact rfl); all_goals (repeat' (first | (with_reducible (first | exact relH_nil | apply rn_lst | apply rn_own | apply rn_mp | apply rn_row | apply rn_abs | exact wo_nil)) | apply wo_keep rfl | apply wo_drop rfl | exact relH_nil | exact r1_flat rfl | exact r0_flat rfl | exact rl_nil | exact wo_nil | exact bk_old rfl | exact bk_new rfl | exact bk_nil rfl | apply rl_cons | (first | exact relL_still hvs | exact relL_still (still_map (fun _ => rfl) _) | exact relL_still (still_map ro_still _) | exact relL_flat (flat_map (fun _ => rfl) _) | apply relL_set) | exact relL_flat (flat_map (fun _ => rfl) _) | exact relL_flat flat_nil | apply relL_to | apply rn_lst | apply rn_own | apply rn_mp | apply rn_row | apply relH_view rfl | apply relH_lview rfl | apply relH_fact rfl | exact r1_rig | exact r0_rig | exact r1_rigs | exact r0_rigs | apply wo_keep rfl | apply wo_drop rfl | apply r1_agg | apply rn_ptr | apply rn_slice | apply rn_slice0 | apply rn_iface | apply rn_map | apply rn_ifacem | apply r0_map | apply r0_ifacem | apply r0_ptr | apply r0_slice | apply r0_slice0 | apply r0_iface)); (first | done | fail)) : p := h
theorem cvDiskOps2 {p : Prop} (h : p := by have nw := True.intro; (repeat' (first | exact True.intro | (with_reducible exact rfl) | (with_reducible exact AbsLe.refl) | (guard_target =~ @Eq Nat _ _; first | exact rfl | omega) | (guard_target =~ List.map _ _ = []; exact rfl) | (first | exact covL_still rfl hvs | exact covL_still rfl (still_map (fun _ => rfl) _) | exact covL_still rfl (still_map ro_still _) | (apply covL_set <;> (try clear nw) <;> have nw := True.intro) | exact congrArg (Value.int _) (by (try dsimp only); omega)) | (exact congrArg (Value.int _) (by omega)) | (exact covL_flat (flat_map (fun _ => rfl) _)) | (exact covL_flat flat_nil) | (refine covP_all ?_; (try clear nw); have nw := True.intro) | (refine covL_each ?_; (try clear nw); have nw := True.intro) | (refine ⟨?_, ?_⟩ <;> (try clear nw) <;> have nw := True.intro) | (guard_hyp nw : True; ((conv => whnf) <;> clear nw)))); (first | done | fail)) : p := h
set_option maxRecDepth 100000 in
theorem read_l (k : Dk) (s : ByteArray) (i : Int) (E : EL) (C : CM) (hk : k.Fit) (hi : -9223372036854775808 ≤ i ∧ i ≤ 9223372036854775807) (hl : ∀ e ∈ E, e.2.2.now.length ≤ 16384) :
 CallOb Tryz.prog 35 [ptr 0, .string s, iv i] (rawH k E C) 3 (LitP E C (fun a : ByteArray × Int => .tuple #[.string a.1, iv a.2]) (ReadR k s i E C)) := by
 have hvs := spots_still E
 refine (call_spec tabOk mixed Tryz.call35 Tryz.func35 rfl [] (fun z : (ByteArray × Int) × Dk × Foc => ReadR k s i E C z.1 z.2.1 z.2.2) (fun z => .tuple #[.string z.1.1, iv z.1.2]) (fun z => shH z.2.1 E C z.2.2) (fun z => shN z.2.2) ?_ ?_).mono (fun v h n ⟨z, hz, h1, h2, h3⟩ => ⟨z.1, z.2.1, z.2.2, hz, h1, h2, h3⟩)
 · exact (Nat.le_of_ble_eq_true rfl)
 (repeat' ((try (conv => whnf)); first | (guard_target =~ ∃ (_ : Value), ∃ (_ : HP), ∃ (_ : HP), _; refine ⟨_, _, _, rnDiskOps1, ?_⟩; (try (dsimp only [Nat.reduceAdd, bC, bL]))) | (guard_target =~ CallOb _ 61 _ _ _ _; refine call_q (found_f _ s _ E C hk) [(0, some 0), (1, some 1), (2, some 2)] cvDiskOps2 rfT rfT rfT (fun v h1 n1 hp => ?_); rcases hp with ⟨e, k', hR, he, rfl, rfl, rfl⟩ | ⟨e, k', q, L, X, hR, he, hq, hok, hcp, rfl, rfl, rfl⟩) | (have hpc' := hpc; refine ⟨i.toNat, by omega, by omega, ?_⟩) | (guard_target =~ ∃ (_ : Nat), _ ∧ _; obtain ⟨p, c, hp1, hc1, hpc⟩ := pn_get hok (i := i.toNat) (by show i.toNat < L.pn.length; omega); refine ⟨i.toNat, by omega, by omega, ?_⟩) | (guard_target =~ ∃ _, RigLd _ _ _ _ _ _ ∧ _; first | refine ⟨_, rig_torn (i := 2) rfl hpc, ?_⟩ | refine ⟨_, rig_data (i := 2) rfl hpc, ?_⟩) | (with_reducible first | refine chk_in (Nat.ble_eq_true_of_le omT) ?_ | (refine ifB_in ?_ ?_ <;> intro hb <;> (try simp only [bN1, bN2, bN3, bN4, bN5, bN6, bN7, bN8, bN9, bN0] at hb) <;> (try (exfalso; omega))) | refine ⟨_, w64b _, ?_⟩ | refine ⟨_, w64 omT omT, ?_⟩ | refine ⟨_, wu64 omT omT, ?_⟩ | refine ⟨_, wu8 omT omT, ?_⟩ | refine ⟨_, w64 szT szT, ?_⟩ | refine ⟨_, rfl, ?_⟩ | refine ⟨rfl, ?_⟩) | intro cap | (with_reducible refine ⟨trivial, ?_⟩) | (guard_target =~ (planChk _ _ = true) ∧ _; refine ⟨by kernel_rfl, ?_⟩) | (guard_target =~ (_ ∧ _) ∧ _; refine ⟨by ((repeat (first | exact trivial | refine ⟨rfl, ?_⟩)); (first | done | fail)), ?_⟩) | refine ⟨by omega, ?_⟩ | refine ⟨szT, ?_⟩ | refine ⟨0, rfl, ?_⟩ | refine ⟨1, rfl, ?_⟩ | refine ⟨2, rfl, ?_⟩ | refine ⟨3, rfl, ?_⟩ | refine ⟨4, rfl, ?_⟩ | refine ⟨5, rfl, ?_⟩ | (refine cell_at1 (by assumption) ?_) | (refine cell_in1 omT (fun x hx => ?_)) | fail)) <;> (try (conv => whnf))
 all_goals first
  | ((refine Ends.go ((((⟨#[]⟩, e), k', none) : (ByteArray × Int) × Dk × Foc)) ?_ [] (Fit.q cvDiskOps2 (by rfl) (by rfl))); exact .inl ⟨rfl, hR, he, rfl⟩)
  | ((refine Ends.go ((((⟨#[]⟩, 14), k', some (q, fxOf L X, X)) : (ByteArray × Int) × Dk × Foc)) ?_ [(3, some 6), (4, some 7), (5, some 8), (6, some 9)] (Fit.q cvDiskOps2 (by rfl) (by rfl))); subst he; refine .inr ⟨q, L, X, rfl, hR, hq, hok, ?_⟩; unfold readF; first | rw [if_pos (by omega)] | (have hlen : L.pn.length = X.now.length := hok.c1.len; rw [if_neg (by omega), List.getElem?_eq_none (by omega)]; rfl))
  | ((refine Ends.go ((((⟨#[]⟩, 13), k', some (q, fxOf L X, X)) : (ByteArray × Int) × Dk × Foc)) ?_ [(3, some 6), (4, some 7), (5, some 8), (6, some 9)] (Fit.q cvDiskOps2 (by rfl) (by rfl))); subst he; refine .inr ⟨q, L, X, rfl, hR, hq, hok, ?_⟩; unfold readF; rw [if_neg (by omega), hc1]; cases c with | none => rfl | some d => exact Bool.noConfusion hb)
  | ((refine Ends.go ((((c.getD ⟨#[]⟩, 0), k', some (q, fxOf L X, X)) : (ByteArray × Int) × Dk × Foc)) ?_ [(3, some 6), (4, some 7), (5, some 8), (6, some 9)] (Fit.q cvDiskOps2 (by rfl) (by rfl))); subst he; refine .inr ⟨q, L, X, rfl, hR, hq, hok, ?_⟩; unfold readF; rw [if_neg (by omega), hc1]; cases c with | none => cases ‹(none : Cv).isNone = false› | some d => rfl)
  | trace_state
theorem read_c (S : Nat → Prop) (D : DM) (hD : D.Ok) (s : ByteArray) (i : Int) (hi : -9223372036854775808 ≤ i ∧ i ≤ 9223372036854775807) :
 CallOb Tryz.prog 35 [ptr 0, .string s, iv i] [(0, diskI S D)] 1 (AbsP (fun a : ByteArray × Int => .tuple #[.string a.1, iv a.2]) (fun a D' => (a, D') = readD D s i)) := by
 refine of_raw Tryz.call35 fun E C hp => ?_
 refine lit_abs (fun _ => rfl) hD.fs.sorted hp (read_l D.k s i E C hD.k hi fun e he => (ok_files hp hD.fs e he).len) ?_
 rintro a k o (⟨rfl, hR, h0, h1⟩ | ⟨q, L, X, rfl, hR, hq, hok, h1⟩)
 · refine ⟨_, rfl, ?_⟩
   unfold readD
   rw [found_none hp hD.fs.sorted hR]
   obtain ⟨a, e⟩ := a
   dsimp only at h0 h1 ⊢
   rw [if_pos h0, h1]
 · obtain ⟨hf, hx⟩ := found_some hp hD.fs.sorted hR hq
   refine ⟨_, ⟨s, L, X, hq, hok, rfl⟩, ?_⟩
   unfold readD
   rw [hf, put_same hD.fs.sorted hx, hx]
   dsimp only [Option.getD_some]
   rw [if_neg (by decide), h1]
end Go.Proofs.YtelolcagncgfpaaGreat
namespace Go.Proofs.YtelolcagncgfpaaGreat
open Go.RowKit
set_option linter.unusedSimpArgs false
set_option linter.unusedVariables false
set_option maxRecDepth 100000 in
theorem clone_none (a : Option Addr) (w : World) : Calls Tryz.prog 60 #[.slice a 0 0] w fun e w' => ∃ a', e = .returned (.slice a' 0 0) ∧ Below w.heap.size w w' := by
 have hbin : ∀ w : World, (binOp BinOp.eql 66 (.slice a 0 0) (.slice none 0 0)).run Tryz.prog w = .ok (.bool a.isNone) w := fun w => by
  simp only [binOp, Sem.run_bind, equal_slice (P := Tryz.prog) w 66 70 a 0 0 0 0 Tryz.underlying66, Result.andThen_ok, Sem.run_pure]
 cases a with
 | none =>
  go_enter Tryz.func60, Tryz.ntmps60
  simp only [Option.isNone_none] at hbin
  go_wp2
  go_ret
  exact ⟨_, rfl, Below.refl _ _⟩
 | some a =>
  go_enter Tryz.func60, Tryz.ntmps60
  simp only [Option.isNone_some] at hbin
  go_wp2
  go_ret
  exact ⟨_, rfl, (Below.refl _ _).alloc (Nat.le_refl _) _⟩
theorem oneAll_map {α : Type} {f : α → Value} (h : ∀ x, (f x).oneCell' = true) (l : List α) : oneAll (l.map f) = true := by
 unfold oneAll
 rw [List.all_eq_true]
 intro v hv
 obtain ⟨x, _, rfl⟩ := List.mem_map.1 hv
 exact h x
theorem sub_map {α : Type} {f : α → Value} (l : List α) : subL (l.map f) 0 (l.length * 1) = some (l.map f) :=
 subL_in (by rw [List.drop_zero]; exact List.take_of_length_le (by rw [List.length_map]; omega)) (by rw [List.length_map]; omega) (fun _ => Nat.zero_le _)
theorem cvDiskOps3 {p : Prop} (h : p := by have nw := True.intro; (repeat' (first | exact True.intro | (with_reducible exact rfl) | (with_reducible exact AbsLe.refl) | (guard_target =~ @Eq Nat _ _; first | exact rfl | omega) | (guard_target =~ List.map _ _ = []; exact rfl) | (first | exact covL_still rfl (still_map hst _) | first | exact covL_still rfl hvs | exact covL_still rfl (still_map (fun _ => rfl) _) | exact covL_still rfl (still_map ro_still _) | (apply covL_set <;> (try clear nw) <;> have nw := True.intro) | exact congrArg (Value.int _) (by (try dsimp only); omega)) | (exact congrArg (Value.int _) (by omega)) | (exact covL_flat (flat_map (fun _ => rfl) _)) | (exact covL_flat flat_nil) | (refine covP_all ?_; (try clear nw); have nw := True.intro) | (refine covL_each ?_; (try clear nw); have nw := True.intro) | (refine ⟨?_, ?_⟩ <;> (try clear nw) <;> have nw := True.intro) | (guard_hyp nw : True; ((conv => whnf) <;> clear nw)))); (first | done | fail)) : p := h
set_option maxRecDepth 100000 in
theorem clone_v {α : Type} (f : α → Value) (l : List α) (k : Nat) (h1 : ∀ x, (f x).oneCell' = true) (hst : ∀ x, still1 (f x) = true) (hl : l.length ≤ 1000000) :
 CallOb Tryz.prog 60 [newS 0 l.length k] [(0, .view (l.map f))] 1 (fun v hh m => ∃ cap : Nat, l.length ≤ cap ∧ v = mslice 1 l.length cap ∧ hh = [(1, .lst 70 1 cap (l.map f))] ∧ m = 2) := by
 refine call_spec tabOk mixed Tryz.call60 Tryz.func60 rfl [] (fun cap : Nat => l.length ≤ cap) (fun cap => mslice 1 l.length cap) (fun cap => [(1, .lst 70 1 cap (l.map f))]) (fun _ => 2) ?_ ?_
 · exact (Nat.le_of_ble_eq_true rfl)
 (repeat' ((try (conv => whnf)); first | (guard_target =~ ∃ (_ : Value), ∃ (_ : HP), ∃ (_ : HP), _; refine ⟨_, _, _, rnDiskOps1, ?_⟩; (try (dsimp only [Nat.reduceAdd, bC, bL]))) | (refine onS_in (sub_map l) ?_) | (refine chk_in (oneAll_map h1 l) ?_) | (intro cap hcap) | (with_reducible first | refine chk_in (Nat.ble_eq_true_of_le omT) ?_ | (refine ifB_in ?_ ?_ <;> intro hb <;> (try simp only [bN1, bN2, bN3, bN4, bN5, bN6, bN7, bN8, bN9, bN0] at hb) <;> (try (exfalso; omega))) | refine ⟨_, w64b _, ?_⟩ | refine ⟨_, w64 omT omT, ?_⟩ | refine ⟨_, wu64 omT omT, ?_⟩ | refine ⟨_, wu8 omT omT, ?_⟩ | refine ⟨_, w64 szT szT, ?_⟩ | refine ⟨_, rfl, ?_⟩ | refine ⟨rfl, ?_⟩) | intro cap | (with_reducible refine ⟨trivial, ?_⟩) | (guard_target =~ (planChk _ _ = true) ∧ _; refine ⟨by kernel_rfl, ?_⟩) | (guard_target =~ (_ ∧ _) ∧ _; refine ⟨by ((repeat (first | exact trivial | refine ⟨rfl, ?_⟩)); (first | done | fail)), ?_⟩) | refine ⟨by omega, ?_⟩ | refine ⟨szT, ?_⟩ | refine ⟨0, rfl, ?_⟩ | refine ⟨1, rfl, ?_⟩ | refine ⟨2, rfl, ?_⟩ | refine ⟨3, rfl, ?_⟩ | refine ⟨4, rfl, ?_⟩ | refine ⟨5, rfl, ?_⟩ | (refine cell_at1 (by assumption) ?_) | (refine cell_in1 omT (fun x hx => ?_)) | fail)) <;> (try (conv => whnf))
 all_goals (dsimp only [rmH, Nat.beq, cond_true, cond_false, List.nil_append, Nat.reduceAdd, Nat.zero_add]; try simp only [Nat.zero_add]; (refine Ends.go (cap) ?_ [(1, some 2)] (Fit.q cvDiskOps3 (by rfl) (by rfl))); omega)
theorem clone_c {α : Type} (f : α → Value) (l : List α) (k : Nat) (h1 : ∀ x, (f x).oneCell' = true) (hst : ∀ x, still1 (f x) = true) (hl : l.length ≤ 1000000) :
 CallOb Tryz.prog 60 [mslice 0 l.length k] [(0, .lview (l.map f))] 1 (fun v hh m => ∃ cap : Nat, l.length ≤ cap ∧ v = mslice 1 l.length cap ∧ hh = [(1, .lst 70 1 cap (l.map f))] ∧ m = 2) := by
 refine ⟨Tryz.call60, fun F B w0 m w cs H hcs => ?_⟩
 match cs, hcs with
 | [c], ⟨hc, _⟩ =>
  obtain ⟨g, s, hm, hv⟩ := VR.mslc.1 hc
  have ok := H.at (rfl : lkH [(0, Itm.lview (l.map f))] 0 = some (.lview (l.map f))) hm
  rcases hv with ⟨rfl, h0, rfl, rfl⟩ | ⟨hs, rfl⟩
  · have hl0 : l = [] := List.eq_nil_of_length_eq_zero h0
    subst hl0
    refine (clone_none (weird g) w).mono ?_
    rintro e w' ⟨a', rfl, hb⟩
    refine ⟨m.put 1 (wcode a') nilS, mslice 1 0 0, _, [(1, .lst 70 1 0 [])], 2, rfl, BM.le_put _ _ _ _, VR.nilA m 1 a', ((H.later hb).pushNilA 70 1 (wcode a')).sub_of fun i it e => ?_, 0, Nat.le_refl _, rfl, rfl, rfl⟩
    have := lkH_mem e
    simp only [List.mem_cons, Prod.mk.injEq, List.not_mem_nil, or_false] at this
    obtain ⟨rfl, rfl⟩ := this
    rfl
  · have hv : ViewIs m w g s (l.map f) := by
     rcases ok with ⟨h, _⟩ | h
     · exact absurd h hs
     · exact h
    have H' : HRel F B w0 m [(0, .view (l.map f))] 1 w := H.re (i := 0) (it := .lview (l.map f)) rfl (fun x => x) (fun _ _ _ hb => hb) (fun g' s' hm' _ => by
     obtain ⟨rfl, rfl⟩ := H.fn _ _ _ _ _ hm' hm
     exact hv)
    exact (clone_v f l k h1 hst hl).run F B w0 m w [_] H' ⟨VR.slc_at hm hs none rfl _ _, trivial⟩
end Go.Proofs.YtelolcagncgfpaaGreat
namespace Go.Proofs.YtelolcagncgfpaaGreat
open Go.RowKit
set_option linter.unusedSimpArgs false
set_option linter.unusedVariables false
attribute [local irreducible] bytesOf strOf strEq strLt sfrom begS
theorem map_some_ro (l : List Nat) : (l.map fun p => rp p) = (l.map some).map ro := by rw [List.map_map]; rfl
theorem rep_flat (n : Nat) : (List.replicate n [Value.bool false]).flatten = (List.replicate n false).map .bool := by
 induction n with
 | zero => rfl
 | succ n ih => rw [List.replicate_succ, List.flatten_cons, ih]; rfl
abbrev settled (x : Fx) (kb kc : Nat) : Fx := ⟨x.pn, x.pn.map some, List.replicate x.pn.length false, true, x.ka, kb, kc⟩
abbrev fileH (x : Fx) : HP := [(0, fileI 0 x), (1, nowI x), (2, safeI x), (3, waitI x)]
abbrev fileJ (a b c : Nat) (x : Fx) : Itm := .own 69 [mslice a x.pn.length x.ka, mslice b x.ps.length x.kb, mslice c x.ws.length x.kc, .bool x.sure]
theorem cvDiskOps4 {p : Prop} (h : p := by have nw := True.intro; (repeat' (first | exact True.intro | (with_reducible exact rfl) | (with_reducible exact AbsLe.refl) | (guard_target =~ @Eq Nat _ _; first | exact rfl | omega) | (guard_target =~ List.map _ _ = []; exact rfl) | (first | (guard_target =~ @Eq Nat _ _; simp; done) | exact covL_still (map_some_ro _) (still_map ro_still _) | exact covL_of (rep_flat _) (flat_map (fun _ => rfl) _) | first | exact covL_still rfl hvs | exact covL_still rfl (still_map (fun _ => rfl) _) | exact covL_still rfl (still_map ro_still _) | (apply covL_set <;> (try clear nw) <;> have nw := True.intro) | exact congrArg (Value.int _) (by (try dsimp only); omega)) | (exact congrArg (Value.int _) (by omega)) | (exact covL_flat (flat_map (fun _ => rfl) _)) | (exact covL_flat flat_nil) | (refine covP_all ?_; (try clear nw); have nw := True.intro) | (refine covL_each ?_; (try clear nw); have nw := True.intro) | (refine ⟨?_, ?_⟩ <;> (try clear nw) <;> have nw := True.intro) | (guard_hyp nw : True; ((conv => whnf) <;> clear nw)))); (first | done | fail)) : p := h
set_option maxRecDepth 100000 in
theorem settle_c (x : Fx) (hl : x.pn.length ≤ 1000000) :
 CallOb Tryz.prog 31 [ptr 0] (fileH x) 4 (fun v hh m => ∃ k : Nat × Nat, True ∧ v = .tuple ([] : List Value).toArray ∧ hh = [(0, fileJ 1 4 5 (settled x k.1 k.2)), (1, nowI (settled x k.1 k.2)), (4, safeI (settled x k.1 k.2)), (5, waitI (settled x k.1 k.2))] ∧ m = 6) := by
 refine call_spec tabOk mixed Tryz.call31 Tryz.func31 rfl [] (fun _ : Nat × Nat => True) (fun _ => .tuple ([] : List Value).toArray) (fun k => [(0, fileJ 1 4 5 (settled x k.1 k.2)), (1, nowI (settled x k.1 k.2)), (4, safeI (settled x k.1 k.2)), (5, waitI (settled x k.1 k.2))]) (fun _ => 6) ?_ ?_
 · exact (Nat.le_of_ble_eq_true rfl)
 obtain ⟨pn, ps, ws, sure, ka, kb, kc⟩ := x
 dsimp only at hl
 (repeat' ((try (conv => whnf)); first | (guard_target =~ ∃ (_ : Value), ∃ (_ : HP), ∃ (_ : HP), _; refine ⟨_, _, _, rnDiskOps1, ?_⟩; (try (dsimp only [Nat.reduceAdd, bC, bL]))) | ((guard_target =~ CallOb _ 60 _ _ _ _; refine call_q (clone_c (fun p => rp p) pn ka (fun _ => rfl) (fun _ => rfl) hl) [(0, some 1)] cvDiskOps4 rfT rfT rfT (fun v h1 n1 hp => ?_); obtain ⟨cap, hcap, rfl, rfl, rfl⟩ := hp); (try (dsimp only [Nat.reduceAdd, bC, bL]))) | (refine ⟨pn.length, pn.length, rfl, rfl, Nat.le_refl _, by omega, by omega, ?_⟩) | (with_reducible first | refine chk_in (Nat.ble_eq_true_of_le omT) ?_ | (refine ifB_in ?_ ?_ <;> intro hb <;> (try simp only [bN1, bN2, bN3, bN4, bN5, bN6, bN7, bN8, bN9, bN0] at hb) <;> (try (exfalso; omega))) | refine ⟨_, w64b _, ?_⟩ | refine ⟨_, w64 omT omT, ?_⟩ | refine ⟨_, wu64 omT omT, ?_⟩ | refine ⟨_, wu8 omT omT, ?_⟩ | refine ⟨_, w64 szT szT, ?_⟩ | refine ⟨_, rfl, ?_⟩ | refine ⟨rfl, ?_⟩) | intro cap | (with_reducible refine ⟨trivial, ?_⟩) | (guard_target =~ (planChk _ _ = true) ∧ _; refine ⟨by kernel_rfl, ?_⟩) | (guard_target =~ (_ ∧ _) ∧ _; refine ⟨by ((repeat (first | exact trivial | refine ⟨rfl, ?_⟩)); (first | done | fail)), ?_⟩) | refine ⟨by omega, ?_⟩ | refine ⟨szT, ?_⟩ | refine ⟨0, rfl, ?_⟩ | refine ⟨1, rfl, ?_⟩ | refine ⟨2, rfl, ?_⟩ | refine ⟨3, rfl, ?_⟩ | refine ⟨4, rfl, ?_⟩ | refine ⟨5, rfl, ?_⟩ | (refine cell_at1 (by assumption) ?_) | (refine cell_in1 omT (fun x hx => ?_)) | fail)) <;> (try (conv => whnf))
 all_goals ((refine Ends.go (((cap, pn.length) : Nat × Nat)) ?_ [(4, some 5), (5, some 6)] (Fit.q cvDiskOps4 (by rfl) (by rfl))); trivial)
def SyncR (k : Dk) (s : ByteArray) (E : EL) (C : CM) (a : Int) (k' : Dk) (o : Foc) : Prop :=
 (o = none ∧ FoundR k s true E (a, k', none) ∧ a ≠ 0) ∨
 ∃ (q : Nat) (L : LF) (X : Fl) (x : Fx), o = some (q, x, syncF X) ∧ FoundR k s true E (0, k', some L) ∧ E[q]? = some (s, L, X) ∧ FxOk C x (syncF X) ∧ a = 0
theorem FxOk.settled {C : CM} {x : Fx} {X : Fl} (h : FxOk C x X) (kb kc : Nat) : FxOk C (settled x kb kc) (syncF X) := by
 refine ⟨h.c1, ?_, ?_, rfl⟩
 · have key : ∀ (l : List Nat) (r : List Cv), All2 (fun p x => (p, x) ∈ C) l r → All2 (SafeC C) (l.map some) (r.map some) := by
    intro l
    induction l with
    | nil => intro r h; cases r with | nil => trivial | cons _ _ => exact h.elim
    | cons p l ih => intro r h; cases r with | nil => exact h.elim | cons c r => exact ⟨h.1, ih r h.2⟩
   exact key _ _ h.c1
 · show List.replicate x.pn.length false = List.replicate X.now.length false
   rw [h.c1.len]
set_option maxRecDepth 100000 in
theorem sync_l (k : Dk) (s : ByteArray) (E : EL) (C : CM) (hk : k.Fit) (hl : ∀ e ∈ E, e.2.2.now.length ≤ 16384) :
 CallOb Tryz.prog 53 [ptr 0, .string s] (rawH k E C) 3 (LitP E C (fun a : Int => iv a) (SyncR k s E C)) := by
 have hvs := spots_still E
 refine (call_spec tabOk mixed Tryz.call53 Tryz.func53 rfl [] (fun z : Int × Dk × Foc => SyncR k s E C z.1 z.2.1 z.2.2) (fun z => iv z.1) (fun z => shH z.2.1 E C z.2.2) (fun z => shN z.2.2) ?_ ?_).mono (fun v h n ⟨z, hz, h1, h2, h3⟩ => ⟨z.1, z.2.1, z.2.2, hz, h1, h2, h3⟩)
 · exact (Nat.le_of_ble_eq_true rfl)
 (repeat' ((try (conv => whnf)); first | (guard_target =~ ∃ (_ : Value), ∃ (_ : HP), ∃ (_ : HP), _; refine ⟨_, _, _, rnDiskOps1, ?_⟩; (try (dsimp only [Nat.reduceAdd, bC, bL]))) | (guard_target =~ CallOb _ 61 _ _ _ _; refine call_q (found_f _ s _ E C hk) [(0, some 0), (1, some 1), (2, some 2)] cvDiskOps4 rfT rfT rfT (fun v h1 n1 hp => ?_); rcases hp with ⟨e, k', hR, he, rfl, rfl, rfl⟩ | ⟨e, k', q, L, X, hR, he, hq, hok, hcp, rfl, rfl, rfl⟩) | (have hlen : (fxOf L X).pn.length ≤ 1000000 := (by have h1 := hok.c1.len; have h2 := hl _ (List.mem_of_getElem? hq); dsimp only at h2; omega); (guard_target =~ CallOb _ 31 _ _ _ _; refine call_q (settle_c (fxOf L X) hlen) [(0, some 6), (1, some 7), (2, some 8), (3, some 9)] cvDiskOps4 rfT rfT rfT (fun v h1 n1 hp => ?_); obtain ⟨kk, _, rfl, rfl, rfl⟩ := hp); (try (dsimp only [Nat.reduceAdd, bC, bL]))) | (with_reducible first | refine chk_in (Nat.ble_eq_true_of_le omT) ?_ | (refine ifB_in ?_ ?_ <;> intro hb <;> (try simp only [bN1, bN2, bN3, bN4, bN5, bN6, bN7, bN8, bN9, bN0] at hb) <;> (try (exfalso; omega))) | refine ⟨_, w64b _, ?_⟩ | refine ⟨_, w64 omT omT, ?_⟩ | refine ⟨_, wu64 omT omT, ?_⟩ | refine ⟨_, wu8 omT omT, ?_⟩ | refine ⟨_, w64 szT szT, ?_⟩ | refine ⟨_, rfl, ?_⟩ | refine ⟨rfl, ?_⟩) | intro cap | (with_reducible refine ⟨trivial, ?_⟩) | (guard_target =~ (planChk _ _ = true) ∧ _; refine ⟨by kernel_rfl, ?_⟩) | (guard_target =~ (_ ∧ _) ∧ _; refine ⟨by ((repeat (first | exact trivial | refine ⟨rfl, ?_⟩)); (first | done | fail)), ?_⟩) | refine ⟨by omega, ?_⟩ | refine ⟨szT, ?_⟩ | refine ⟨0, rfl, ?_⟩ | refine ⟨1, rfl, ?_⟩ | refine ⟨2, rfl, ?_⟩ | refine ⟨3, rfl, ?_⟩ | refine ⟨4, rfl, ?_⟩ | refine ⟨5, rfl, ?_⟩ | (refine cell_at1 (by assumption) ?_) | (refine cell_in1 omT (fun x hx => ?_)) | fail)) <;> (try (conv => whnf))
 all_goals first
  | ((refine Ends.go (((e, k', none) : Int × Dk × Foc)) ?_ [] (Fit.q cvDiskOps4 (by rfl) (by rfl))); exact .inl ⟨rfl, hR, he⟩)
  | ((refine Ends.go (((e, k', some (q, settled (fxOf L X) kk.1 kk.2, syncF X)) : Int × Dk × Foc)) ?_ [(3, some 6), (4, some 7), (5, some 14), (6, some 15)] (Fit.q cvDiskOps4 (by rfl) (by rfl))); subst he; exact .inr ⟨q, L, X, _, rfl, hR, hq, hok.settled _ _, rfl⟩)
  | trace_state
theorem sync_c (S : Nat → Prop) (D : DM) (hD : D.Ok) (s : ByteArray) :
 CallOb Tryz.prog 53 [ptr 0, .string s] [(0, diskI S D)] 1 (AbsP (fun a : Int => iv a) (fun a D' => (a, D') = syncD D s)) := by
 refine of_raw Tryz.call53 fun E C hp => ?_
 refine lit_abs (fun _ => rfl) hD.fs.sorted hp (sync_l D.k s E C hD.k fun e he => (ok_files hp hD.fs e he).len) ?_
 rintro a k o (⟨rfl, hR, h0⟩ | ⟨q, L, X, x, rfl, hR, hq, hok, h1⟩)
 · refine ⟨_, rfl, ?_⟩
   unfold syncD
   rw [found_none hp hD.fs.sorted hR]
   dsimp only
   rw [if_pos h0]
 · obtain ⟨hf, hx⟩ := found_some hp hD.fs.sorted hR hq
   refine ⟨_, ⟨s, L, X, hq, hok, rfl⟩, ?_⟩
   unfold syncD
   rw [hf, hx]
   dsimp only [Option.getD_some]
   rw [if_neg (by decide), h1]
end Go.Proofs.YtelolcagncgfpaaGreat
namespace Go.Proofs.YtelolcagncgfpaaGreat
open Go.RowKit
set_option linter.unusedSimpArgs false
set_option linter.unusedVariables false
attribute [local irreducible] bytesOf strOf strEq strLt sfrom begS
def CutR (k : Dk) (s : ByteArray) (n : Int) (E : EL) (C : CM) (a : Int) (k' : Dk) (o : Foc) : Prop :=
 (o = none ∧ FoundR k s (decide (0 ≤ n)) E (a, k', none) ∧ a ≠ 0) ∨
 ∃ (q : Nat) (L : LF) (X : Fl) (x : Fx) (X' : Fl), o = some (q, x, X') ∧ FoundR k s (decide (0 ≤ n)) E (0, k', some L) ∧ E[q]? = some (s, L, X) ∧ FxOk C x X' ∧ (((X.now.length : Int) < n ∧ a = 14 ∧ X' = X) ∨ (n ≤ X.now.length ∧ a = 0 ∧ X' = cutF X n.toNat))
theorem found_true {k k' : Dk} {s : ByteArray} {r : Bool} {E : EL} {e : Int} {L : LF} (h : FoundR k s r E (e, k', some L)) : r = true := by
 rcases h.2 with ⟨_, _, hc⟩ | ⟨_, _, hc, _⟩ | ⟨h0, _⟩
 · cases hc
 · cases hc
 · cases r with
   | true => rfl
   | false =>
    unfold begS at h0
    rw [if_pos (.inr rfl)] at h0
    exact absurd (show (1 : Int) = 0 from h0) (by decide)
theorem cvDiskOps5 {p : Prop} (h : p := by have nw := True.intro; (repeat' (first | exact True.intro | (with_reducible exact rfl) | (with_reducible exact AbsLe.refl) | (guard_target =~ @Eq Nat _ _; first | exact rfl | omega) | (guard_target =~ List.map _ _ = []; exact rfl) | (first | (guard_target =~ @Eq Nat _ _; rw [List.length_take]; omega) | exact covP_take n.toNat (covL_still List.map_take.symm (still_map (fun _ => rfl) _)) | exact covP_take n.toNat (covL_still List.map_take.symm (still_map ro_still _)) | exact covP_take n.toNat (covL_of List.map_take.symm (flat_map (fun _ => rfl) _)) | first | exact covL_still rfl hvs | exact covL_still rfl (still_map (fun _ => rfl) _) | exact covL_still rfl (still_map ro_still _) | (apply covL_set <;> (try clear nw) <;> have nw := True.intro) | exact congrArg (Value.int _) (by (try dsimp only); omega)) | (exact congrArg (Value.int _) (by omega)) | (exact covL_flat (flat_map (fun _ => rfl) _)) | (exact covL_flat flat_nil) | (refine covP_all ?_; (try clear nw); have nw := True.intro) | (refine covL_each ?_; (try clear nw); have nw := True.intro) | (refine ⟨?_, ?_⟩ <;> (try clear nw) <;> have nw := True.intro) | (guard_hyp nw : True; ((conv => whnf) <;> clear nw)))); (first | done | fail)) : p := h
set_option maxRecDepth 100000 in
theorem cut_l (k : Dk) (s : ByteArray) (n : Int) (E : EL) (C : CM) (hk : k.Fit) (hn : -9223372036854775808 ≤ n ∧ n ≤ 9223372036854775807) (hl : ∀ e ∈ E, e.2.2.Ok) :
 CallOb Tryz.prog 75 [ptr 0, .string s, iv n] (rawH k E C) 3 (LitP E C (fun a : Int => iv a) (CutR k s n E C)) := by
 have hvs := spots_still E
 have hge : (decide (n ≥ 0)) = decide (0 ≤ n) := rfl
 refine (call_spec tabOk mixed Tryz.call75 Tryz.func75 rfl [(6, [(0, true), (1, true), (2, true), (3, true), (4, true), (5, true), (6, true), (7, true), (8, true), (9, true), (10, true), (11, true), (12, true), (13, true), (14, true), (15, true), (16, true), (17, true), (18, true), (19, true), (20, true), (21, true), (22, true), (23, true), (1024, false), (25, true), (26, true), (1027, false), (28, true), (29, true), (1030, false), (31, true), (32, true), (1033, false)])] (fun z : Int × Dk × Foc => CutR k s n E C z.1 z.2.1 z.2.2) (fun z => iv z.1) (fun z => shH z.2.1 E C z.2.2) (fun z => shN z.2.2) ?_ ?_).mono (fun v h n ⟨z, hz, h1, h2, h3⟩ => ⟨z.1, z.2.1, z.2.2, hz, h1, h2, h3⟩)
 · exact (Nat.le_of_ble_eq_true rfl)
 (repeat' ((try (conv => whnf)); first | (guard_target =~ ∃ (_ : Value), ∃ (_ : HP), ∃ (_ : HP), _; refine ⟨_, _, _, rnDiskOps1, ?_⟩; (try (dsimp only [Nat.reduceAdd, bC, bL]))) | (guard_target =~ CallOb _ 61 _ _ _ _; refine call_q (found_f k s (decide (0 ≤ n)) E C hk) [(0, some 0), (1, some 1), (2, some 2)] cvDiskOps5 rfT rfT rfT (fun v h1 n1 hp => ?_); rcases hp with ⟨e, k', hR, he, rfl, rfl, rfl⟩ | ⟨e, k', q, L, X, hR, he, hq, hok, hcp, rfl, rfl, rfl⟩) | (have hn0 : 0 ≤ n := of_decide_eq_true (found_true hR); have hX := hl _ (List.mem_of_getElem? hq); have hcp' := hcp; obtain ⟨ca, cb, cc⟩ := hcp'; dsimp only at ca cb cc; have e1 : L.pn.length = X.now.length := hok.c1.len; have e2 : L.ps.length = X.safe.length := hok.c2.len; have e3 : X.safe.length = X.now.length := hX.safe; have e4 : X.wait.length = X.now.length := hX.wait; refine ⟨n.toNat, by omega, by omega, ?_⟩) | (refine ⟨n.toNat, by omega, by omega, ?_⟩) | (refine ⟨by omega, ?_⟩) | (with_reducible first | refine chk_in (Nat.ble_eq_true_of_le omT) ?_ | (refine ifB_in ?_ ?_ <;> intro hb <;> (try simp only [bN1, bN2, bN3, bN4, bN5, bN6, bN7, bN8, bN9, bN0] at hb) <;> (try (exfalso; omega))) | refine ⟨_, w64b _, ?_⟩ | refine ⟨_, w64 omT omT, ?_⟩ | refine ⟨_, wu64 omT omT, ?_⟩ | refine ⟨_, wu8 omT omT, ?_⟩ | refine ⟨_, w64 szT szT, ?_⟩ | refine ⟨_, rfl, ?_⟩ | refine ⟨rfl, ?_⟩) | intro cap | (with_reducible refine ⟨trivial, ?_⟩) | (guard_target =~ (planChk _ _ = true) ∧ _; refine ⟨by kernel_rfl, ?_⟩) | (guard_target =~ (_ ∧ _) ∧ _; refine ⟨by ((repeat (first | exact trivial | refine ⟨rfl, ?_⟩)); (first | done | fail)), ?_⟩) | refine ⟨by omega, ?_⟩ | refine ⟨szT, ?_⟩ | refine ⟨0, rfl, ?_⟩ | refine ⟨1, rfl, ?_⟩ | refine ⟨2, rfl, ?_⟩ | refine ⟨3, rfl, ?_⟩ | refine ⟨4, rfl, ?_⟩ | refine ⟨5, rfl, ?_⟩ | (refine cell_at1 (by assumption) ?_) | (refine cell_in1 omT (fun x hx => ?_)) | fail)) <;> (try (conv => whnf))
 all_goals first
  | ((refine Ends.go (((e, k', none) : Int × Dk × Foc)) ?_ [] (Fit.q cvDiskOps5 (by rfl) (by rfl))); exact .inl ⟨rfl, hR, he⟩)
  | ((refine Ends.go (((14, k', some (q, fxOf L X, X)) : Int × Dk × Foc)) ?_ [(3, some 6), (4, some 7), (5, some 8), (6, some 9)] (Fit.q cvDiskOps5 (by rfl) (by rfl))); subst he; exact .inr ⟨q, L, X, _, _, rfl, hR, hq, hok, .inl ⟨by have h1 := hok.c1.len; dsimp only at h1; omega, rfl, rfl⟩⟩)
  | ((refine Ends.go (((0, k', some (q, ⟨L.pn.take n.toNat, L.ps.take n.toNat, X.wait.take n.toNat, true, L.a.k, L.b.k, L.c.k⟩, cutF X n.toNat)) : Int × Dk × Foc)) ?_ [(3, some 6), (4, some 7), (5, some 8), (6, some 9)] (Fit.q cvDiskOps5 (by rfl) (by rfl))); subst he; exact .inr ⟨q, L, X, _, _, rfl, hR, hq, ⟨hok.c1.take _, hok.c2.take _, rfl, rfl⟩, .inr ⟨by omega, rfl, rfl⟩⟩)
  | trace_state
theorem cut_c (S : Nat → Prop) (D : DM) (hD : D.Ok) (s : ByteArray) (n : Int) (hn : -9223372036854775808 ≤ n ∧ n ≤ 9223372036854775807) :
 CallOb Tryz.prog 75 [ptr 0, .string s, iv n] [(0, diskI S D)] 1 (AbsP (fun a : Int => iv a) (fun a D' => (a, D') = cutD D s n)) := by
 refine of_raw Tryz.call75 fun E C hp => ?_
 refine lit_abs (fun _ => rfl) hD.fs.sorted hp (cut_l D.k s n E C hD.k hn (ok_files hp hD.fs)) ?_
 rintro a k o (⟨rfl, hR, h0⟩ | ⟨q, L, X, x, X', rfl, hR, hq, hok, h1⟩)
 · refine ⟨_, rfl, ?_⟩
   unfold cutD
   rw [found_none hp hD.fs.sorted hR]
   dsimp only
   rw [if_pos h0]
 · obtain ⟨hf, hx⟩ := found_some hp hD.fs.sorted hR hq
   refine ⟨_, ⟨s, L, X, hq, hok, rfl⟩, ?_⟩
   unfold cutD
   rw [hf, hx]
   dsimp only [Option.getD_some]
   rw [if_neg (by decide)]
   rcases h1 with ⟨h1, rfl, rfl⟩ | ⟨h1, rfl, rfl⟩
   · rw [if_pos h1, put_same hD.fs.sorted hx]
   · rw [if_neg (by omega)]
end Go.Proofs.YtelolcagncgfpaaGreat
namespace Go.Proofs.YtelolcagncgfpaaGreat
open Go.RowKit
set_option linter.unusedSimpArgs false
set_option linter.unusedVariables false
attribute [local irreducible] bytesOf strOf strEq strLt sfrom begS
theorem names_nodup {E : EL} {fs : Fs} (hp : (filesOf E).Perm fs) (hs : Sorted fs) : (E.map fun e => e.1).Nodup := by
 have h : (fs.map fun p => p.1).Nodup := by
  rw [List.Nodup, List.pairwise_map]
  exact hs.imp fun h e => by rw [e] at h; exact strLt_irrefl _ h
 have := (hp.map fun p => p.1).nodup_iff.2 h
 rw [List.map_map] at this
 exact this
theorem first_q {E : EL} (hn : (E.map fun e => e.1).Nodup) {q j : Nat} {s : ByteArray} {L : LF} {X : Fl} (hq : E[q]? = some (s, L, X)) (hj : FirstAt (names E) (.string s) j) : j = q := by
 have h1 : (E.map fun e => e.1)[q]? = some s := by rw [List.getElem?_map, hq]; rfl
 have h2 : (E.map fun e => e.1)[j]? = some s := by
  have := hj.1
  rw [List.getElem?_map] at this ⊢
  cases e : E[j]? with
  | none => rw [e] at this; cases this
  | some x => rw [e] at this; simp only [Option.map_some, Option.some.injEq, Value.string.injEq] at this ⊢; exact this
 have lt : j < (E.map fun e => e.1).length := by
  rcases Nat.lt_or_ge j (E.map fun e => e.1).length with y | y
  · exact y
  · rw [List.getElem?_eq_none y] at h2; cases h2
 exact (List.getElem?_inj lt hn).1 (h2.trans h1.symm)
theorem look_foc {E : EL} (hn : (E.map fun e => e.1).Nodup) {q i : Nat} {s : ByteArray} {L : LF} {X : Fl} (hq : E[q]? = some (s, L, X)) {Kf : Value → Prop} {Kn : Prop} (h : Kf (ptr i)) : LookOb (names E) ((spots E).set q (ptr i)) (.string s) Kf Kn where
 kinds u hu := by obtain ⟨e, _, rfl⟩ := List.mem_map.1 hu; rfl
 len := by rw [List.length_set, List.length_map, List.length_map]
 found j v hj hv := by
  obtain rfl := first_q hn hq hj
  have hlt : j < (spots E).length := by
   rcases Nat.lt_or_ge j (spots E).length with y | y
   · exact y
   · rw [List.getElem?_eq_none (by rw [List.length_set]; exact y)] at hv; cases hv
  rw [List.getElem?_set, if_pos rfl, if_pos hlt] at hv
  cases hv
  exact h
 none hN := absurd rfl (hN (.string s) (List.mem_map.2 ⟨_, List.mem_of_getElem? hq, rfl⟩))
theorem del_foc {E : EL} (hn : (E.map fun e => e.1).Nodup) {q i : Nat} {s : ByteArray} {L : LF} {X : Fl} (hq : E[q]? = some (s, L, X)) : DelOb (names E) ((spots E).set q (ptr i)) (.string s) (names (E.eraseIdx q)) (spots (E.eraseIdx q)) where
 kinds u hu := by obtain ⟨e, _, rfl⟩ := List.mem_map.1 hu; rfl
 old j hj := by
  obtain rfl := first_q hn hq hj
  refine ⟨map_eraseIdx _ _ _, ?_⟩
  rw [List.eraseIdx_set_eq]
  exact map_eraseIdx _ _ _
 new hN := absurd rfl (hN (.string s) (List.mem_map.2 ⟨_, List.mem_of_getElem? hq, rfl⟩))
abbrev delE (E : EL) : Option Nat → EL | none => E | some q => E.eraseIdx q
def DropR (k : Dk) (s : ByteArray) (E : EL) (a : Int) (k' : Dk) (o : Option Nat) : Prop :=
 (o = none ∧ FoundR k s true E (a, k', none) ∧ a ≠ 0) ∨ ∃ (q : Nat) (L : LF) (X : Fl), o = some q ∧ FoundR k s true E (0, k', some L) ∧ E[q]? = some (s, L, X) ∧ a = 0
set_option maxRecDepth 100000 in
theorem drop_l (k : Dk) (s : ByteArray) (E : EL) (C : CM) (hk : k.Fit) (hn : (E.map fun e => e.1).Nodup) :
 CallOb Tryz.prog 76 [ptr 0, .string s] (rawH k E C) 3 (fun v hh m => ∃ z : Int × Dk × Option Nat, DropR k s E z.1 z.2.1 z.2.2 ∧ v = iv z.1 ∧ hh = rawH z.2.1 (delE E z.2.2) C ∧ m = 3) := by
 have hvs := spots_still E
 refine call_spec tabOk mixed Tryz.call76 Tryz.func76 rfl [] (fun z : Int × Dk × Option Nat => DropR k s E z.1 z.2.1 z.2.2) (fun z => iv z.1) (fun z => rawH z.2.1 (delE E z.2.2) C) (fun _ => 3) ?_ ?_
 · exact (Nat.le_of_ble_eq_true rfl)
 (repeat' ((try (conv => whnf)); first | (guard_target =~ ∃ (_ : Value), ∃ (_ : HP), ∃ (_ : HP), _; refine ⟨_, _, _, rnDiskOps1, ?_⟩; (try (dsimp only [Nat.reduceAdd, bC, bL]))) | (guard_target =~ CallOb _ 61 _ _ _ _; refine call_q (found_f _ s _ E C hk) [(0, some 0), (1, some 1), (2, some 2)] cvDiskOps2 rfT rfT rfT (fun v h1 n1 hp => ?_); rcases hp with ⟨e, k', hR, he, rfl, rfl, rfl⟩ | ⟨e, k', q, L, X, hR, he, hq, hok, hcp, rfl, rfl, rfl⟩) | (guard_target =~ ∃ ks' vs', DelOb _ _ _ ks' vs' ∧ _; refine ⟨_, _, del_foc hn hq, ?_⟩) | (with_reducible first | refine chk_in (Nat.ble_eq_true_of_le omT) ?_ | (refine ifB_in ?_ ?_ <;> intro hb <;> (try simp only [bN1, bN2, bN3, bN4, bN5, bN6, bN7, bN8, bN9, bN0] at hb) <;> (try (exfalso; omega))) | refine ⟨_, w64b _, ?_⟩ | refine ⟨_, w64 omT omT, ?_⟩ | refine ⟨_, wu64 omT omT, ?_⟩ | refine ⟨_, wu8 omT omT, ?_⟩ | refine ⟨_, w64 szT szT, ?_⟩ | refine ⟨_, rfl, ?_⟩ | refine ⟨rfl, ?_⟩) | intro cap | (with_reducible refine ⟨trivial, ?_⟩) | (guard_target =~ (planChk _ _ = true) ∧ _; refine ⟨by kernel_rfl, ?_⟩) | (guard_target =~ (_ ∧ _) ∧ _; refine ⟨by ((repeat (first | exact trivial | refine ⟨rfl, ?_⟩)); (first | done | fail)), ?_⟩) | refine ⟨by omega, ?_⟩ | refine ⟨szT, ?_⟩ | refine ⟨0, rfl, ?_⟩ | refine ⟨1, rfl, ?_⟩ | refine ⟨2, rfl, ?_⟩ | refine ⟨3, rfl, ?_⟩ | refine ⟨4, rfl, ?_⟩ | refine ⟨5, rfl, ?_⟩ | (refine cell_at1 (by assumption) ?_) | (refine cell_in1 omT (fun x hx => ?_)) | fail)) <;> (try (conv => whnf))
 all_goals first
  | ((refine Ends.go (((e, k', none) : Int × Dk × Option Nat)) ?_ [] (Fit.q cvDiskOps2 (by rfl) (by rfl))); exact .inl ⟨rfl, hR, he⟩)
  | ((refine Ends.go (((e, k', some q) : Int × Dk × Option Nat)) ?_ [] (Fit.q cvDiskOps2 (by rfl) (by rfl))); subst he; exact .inr ⟨q, L, X, rfl, hR, hq, rfl⟩)
  | trace_state
set_option maxRecDepth 100000 in
theorem room_l (k : Dk) (a : Int) (E : EL) (C : CM) (h1 : -9223372036854775808 ≤ a ∧ a ≤ 9223372036854775807) :
 CallOb Tryz.prog 27 [ptr 0, iv a] (rawH k E C) 3 (LitP E C (fun _ : Unit => .tuple ([] : List Value).toArray) (fun _ k' o => o = none ∧ k' = { k with room := clampR a })) := by
 have hvs := spots_still E
 refine (call_spec tabOk mixed Tryz.call27 Tryz.func27 rfl [] (fun z : Dk => z = { k with room := clampR a }) (fun _ => .tuple ([] : List Value).toArray) (fun z => rawH z E C) (fun _ => 3) ?_ ?_).mono (fun v h n ⟨z, hz, e1, e2, e3⟩ => ⟨(), z, none, ⟨rfl, hz⟩, e1, e2, e3⟩)
 · exact (Nat.le_of_ble_eq_true rfl)
 obtain ⟨room, down, ops, life, at', kind, more⟩ := k
 (repeat' ((try (conv => whnf)); first | (guard_target =~ ∃ (_ : Value), ∃ (_ : HP), ∃ (_ : HP), _; refine ⟨_, _, _, rnDiskOps1, ?_⟩; (try (dsimp only [Nat.reduceAdd, bC, bL]))) | fail | (with_reducible first | refine chk_in (Nat.ble_eq_true_of_le omT) ?_ | (refine ifB_in ?_ ?_ <;> intro hb <;> (try simp only [bN1, bN2, bN3, bN4, bN5, bN6, bN7, bN8, bN9, bN0] at hb) <;> (try (exfalso; omega))) | refine ⟨_, w64b _, ?_⟩ | refine ⟨_, w64 omT omT, ?_⟩ | refine ⟨_, wu64 omT omT, ?_⟩ | refine ⟨_, wu8 omT omT, ?_⟩ | refine ⟨_, w64 szT szT, ?_⟩ | refine ⟨_, rfl, ?_⟩ | refine ⟨rfl, ?_⟩) | intro cap | (with_reducible refine ⟨trivial, ?_⟩) | (guard_target =~ (planChk _ _ = true) ∧ _; refine ⟨by kernel_rfl, ?_⟩) | (guard_target =~ (_ ∧ _) ∧ _; refine ⟨by ((repeat (first | exact trivial | refine ⟨rfl, ?_⟩)); (first | done | fail)), ?_⟩) | refine ⟨by omega, ?_⟩ | refine ⟨szT, ?_⟩ | refine ⟨0, rfl, ?_⟩ | refine ⟨1, rfl, ?_⟩ | refine ⟨2, rfl, ?_⟩ | refine ⟨3, rfl, ?_⟩ | refine ⟨4, rfl, ?_⟩ | refine ⟨5, rfl, ?_⟩ | (refine cell_at1 (by assumption) ?_) | (refine cell_in1 omT (fun x hx => ?_)) | fail)) <;> (try (conv => whnf))
 all_goals first
  | ((refine Ends.go ((⟨min (max a 0) 16384, down, ops, life, at', kind, more⟩ : Dk)) ?_ [] (Fit.q cvDiskOps2 (by rfl) (by rfl))); rfl)
  | trace_state
theorem of_foc {f : FuncId} (hok : FnOk Tryz.prog f) {args : List Value} {k : Dk} {E : EL} {C : CM} {K : Value → HP → Nat → Prop} {q : Nat} {s : ByteArray} {L : LF} {X : Fl} (hq : E[q]? = some (s, L, X))
 (hc : FxOk C (fxOf L X) X → FxCap (fxOf L X) → CallOb Tryz.prog f args (focH k E q C (fxOf L X)) 7 K) : CallOb Tryz.prog f args (rawH k E C) 3 K := by
 refine CallOb.pre hok fun F B w0 m w cs H hcs => ?_
 obtain ⟨m', hle, h3, H', c1, c2, c3, c4, c5⟩ := open_file H (j := 1) (r := 2) (q := q) (s := s) (L := L) (X := X) rfl rfl (by decide) hq
 refine ⟨m', args, focH k E q C (fxOf L X), 7, hle, H'.sub_of fun i it e => ?_, LR.mono (fun _ _ x => x.mono hle) hcs, hc ⟨c1, c2, rfl, rfl⟩ ⟨c3, c4, c5⟩⟩
 have := lkH_mem e
 simp only [List.mem_cons, Prod.mk.injEq, List.not_mem_nil, or_false] at this
 rcases this with ⟨rfl, rfl⟩ | ⟨rfl, rfl⟩ | ⟨rfl, rfl⟩ | ⟨rfl, rfl⟩ | ⟨rfl, rfl⟩ | ⟨rfl, rfl⟩ | ⟨rfl, rfl⟩ <;> rfl
set_option maxRecDepth 100000 in
theorem size_f (k : Dk) (s : ByteArray) (E : EL) (C : CM) (q : Nat) (L : LF) (X : Fl) (hn : (E.map fun e => e.1).Nodup) (hq : E[q]? = some (s, L, X)) :
 CallOb Tryz.prog 18 [ptr 0, .string s] (focH k E q C (fxOf L X)) 7 (fun v hh m => ∃ z : Int, z = (L.pn.length : Nat) ∧ v = iv z ∧ hh = focH k E q C (fxOf L X) ∧ m = 7) := by
 refine call_spec tabOk mixed Tryz.call18 Tryz.func18 rfl [] (fun z : Int => z = (L.pn.length : Nat)) (fun z => iv z) (fun _ => focH k E q C (fxOf L X)) (fun _ => 7) ?_ ?_
 · exact (Nat.le_of_ble_eq_true rfl)
 (repeat' ((try (conv => whnf)); first | (guard_target =~ ∃ (_ : Value), ∃ (_ : HP), ∃ (_ : HP), _; refine ⟨_, _, _, rnDiskOps1, ?_⟩; (try (dsimp only [Nat.reduceAdd, bC, bL]))) | (guard_target =~ LookOb _ _ _ _ _; refine look_foc hn hq ?_) | (with_reducible first | refine chk_in (Nat.ble_eq_true_of_le omT) ?_ | (refine ifB_in ?_ ?_ <;> intro hb <;> (try simp only [bN1, bN2, bN3, bN4, bN5, bN6, bN7, bN8, bN9, bN0] at hb) <;> (try (exfalso; omega))) | refine ⟨_, w64b _, ?_⟩ | refine ⟨_, w64 omT omT, ?_⟩ | refine ⟨_, wu64 omT omT, ?_⟩ | refine ⟨_, wu8 omT omT, ?_⟩ | refine ⟨_, w64 szT szT, ?_⟩ | refine ⟨_, rfl, ?_⟩ | refine ⟨rfl, ?_⟩) | intro cap | (with_reducible refine ⟨trivial, ?_⟩) | (guard_target =~ (planChk _ _ = true) ∧ _; refine ⟨by kernel_rfl, ?_⟩) | (guard_target =~ (_ ∧ _) ∧ _; refine ⟨by ((repeat (first | exact trivial | refine ⟨rfl, ?_⟩)); (first | done | fail)), ?_⟩) | refine ⟨by omega, ?_⟩ | refine ⟨szT, ?_⟩ | refine ⟨0, rfl, ?_⟩ | refine ⟨1, rfl, ?_⟩ | refine ⟨2, rfl, ?_⟩ | refine ⟨3, rfl, ?_⟩ | refine ⟨4, rfl, ?_⟩ | refine ⟨5, rfl, ?_⟩ | (refine cell_at1 (by assumption) ?_) | (refine cell_in1 omT (fun x hx => ?_)) | fail)) <;> (try (conv => whnf))
 all_goals first
  | ((refine Ends.go (((L.pn.length : Nat) : Int)) ?_ [] (Fit.q cvDiskOps2 (by rfl) (by rfl))); rfl)
  | trace_state
set_option maxRecDepth 100000 in
theorem size_n (k : Dk) (s : ByteArray) (E : EL) (C : CM) (hN : ∀ e ∈ E, e.1 ≠ s) :
 CallOb Tryz.prog 18 [ptr 0, .string s] (rawH k E C) 3 (LitP E C (fun a : Int => iv a) (fun a k' o => o = none ∧ k' = k ∧ a = -1)) := by
 have hvs := spots_still E
 refine (call_spec tabOk mixed Tryz.call18 Tryz.func18 rfl [] (fun z : Int => z = -1) (fun z => iv z) (fun _ => rawH k E C) (fun _ => 3) ?_ ?_).mono (fun v h n ⟨z, hz, e1, e2, e3⟩ => ⟨z, k, none, ⟨rfl, rfl, hz⟩, e1, e2, e3⟩)
 · exact (Nat.le_of_ble_eq_true rfl)
 (repeat' ((try (conv => whnf)); first | (guard_target =~ ∃ (_ : Value), ∃ (_ : HP), ∃ (_ : HP), _; refine ⟨_, _, _, rnDiskOps1, ?_⟩; (try (dsimp only [Nat.reduceAdd, bC, bL]))) | (guard_target =~ LookOb _ _ _ _ _; refine look_files (fun q L X hq => absurd rfl (hN _ (List.mem_of_getElem? hq))) (fun _ => ?_)) | (with_reducible first | refine chk_in (Nat.ble_eq_true_of_le omT) ?_ | (refine ifB_in ?_ ?_ <;> intro hb <;> (try simp only [bN1, bN2, bN3, bN4, bN5, bN6, bN7, bN8, bN9, bN0] at hb) <;> (try (exfalso; omega))) | refine ⟨_, w64b _, ?_⟩ | refine ⟨_, w64 omT omT, ?_⟩ | refine ⟨_, wu64 omT omT, ?_⟩ | refine ⟨_, wu8 omT omT, ?_⟩ | refine ⟨_, w64 szT szT, ?_⟩ | refine ⟨_, rfl, ?_⟩ | refine ⟨rfl, ?_⟩) | intro cap | (with_reducible refine ⟨trivial, ?_⟩) | (guard_target =~ (planChk _ _ = true) ∧ _; refine ⟨by kernel_rfl, ?_⟩) | (guard_target =~ (_ ∧ _) ∧ _; refine ⟨by ((repeat (first | exact trivial | refine ⟨rfl, ?_⟩)); (first | done | fail)), ?_⟩) | refine ⟨by omega, ?_⟩ | refine ⟨szT, ?_⟩ | refine ⟨0, rfl, ?_⟩ | refine ⟨1, rfl, ?_⟩ | refine ⟨2, rfl, ?_⟩ | refine ⟨3, rfl, ?_⟩ | refine ⟨4, rfl, ?_⟩ | refine ⟨5, rfl, ?_⟩ | (refine cell_at1 (by assumption) ?_) | (refine cell_in1 omT (fun x hx => ?_)) | fail)) <;> (try (conv => whnf))
 all_goals first
  | ((refine Ends.go ((-1 : Int)) ?_ [] (Fit.q cvDiskOps2 (by rfl) (by rfl))); rfl)
  | trace_state
set_option maxRecDepth 100000 in
theorem off_l (k : Dk) (E : EL) (C : CM) (hk : k.Fit) : CallOb Tryz.prog 98 [ptr 0] (rawH k E C) 3 (LitP E C (fun _ : Unit => .tuple ([] : List Value).toArray) (fun _ k' o => o = none ∧ k' = (offD ⟨k, []⟩).k)) := by
 have hvs := spots_still E
 unfold Dk.Fit at hk
 obtain ⟨room, down, ops, life, at', kind, more⟩ := k
 dsimp only at hk
 refine (call_spec tabOk mixed Tryz.call98 Tryz.func98 rfl [] (fun z : Dk => z = (offD ⟨⟨room, down, ops, life, at', kind, more⟩, []⟩).k) (fun _ => .tuple ([] : List Value).toArray) (fun z => rawH z E C) (fun _ => 3) ?_ ?_).mono (fun v h n ⟨z, hz, e1, e2, e3⟩ => ⟨(), z, none, ⟨rfl, hz⟩, e1, e2, e3⟩)
 · exact (Nat.le_of_ble_eq_true rfl)
 (repeat' ((try (conv => whnf)); first | (guard_target =~ ∃ (_ : Value), ∃ (_ : HP), ∃ (_ : HP), _; refine ⟨_, _, _, rnDiskOps1, ?_⟩; (try (dsimp only [Nat.reduceAdd, bC, bL]))) | fail | (with_reducible first | refine chk_in (Nat.ble_eq_true_of_le omT) ?_ | (refine ifB_in ?_ ?_ <;> intro hb <;> (try simp only [bN1, bN2, bN3, bN4, bN5, bN6, bN7, bN8, bN9, bN0] at hb) <;> (try (exfalso; omega))) | refine ⟨_, w64b _, ?_⟩ | refine ⟨_, w64 omT omT, ?_⟩ | refine ⟨_, wu64 omT omT, ?_⟩ | refine ⟨_, wu8 omT omT, ?_⟩ | refine ⟨_, w64 szT szT, ?_⟩ | refine ⟨_, rfl, ?_⟩ | refine ⟨rfl, ?_⟩) | intro cap | (with_reducible refine ⟨trivial, ?_⟩) | (guard_target =~ (planChk _ _ = true) ∧ _; refine ⟨by kernel_rfl, ?_⟩) | (guard_target =~ (_ ∧ _) ∧ _; refine ⟨by ((repeat (first | exact trivial | refine ⟨rfl, ?_⟩)); (first | done | fail)), ?_⟩) | refine ⟨by omega, ?_⟩ | refine ⟨szT, ?_⟩ | refine ⟨0, rfl, ?_⟩ | refine ⟨1, rfl, ?_⟩ | refine ⟨2, rfl, ?_⟩ | refine ⟨3, rfl, ?_⟩ | refine ⟨4, rfl, ?_⟩ | refine ⟨5, rfl, ?_⟩ | (refine cell_at1 (by assumption) ?_) | (refine cell_in1 omT (fun x hx => ?_)) | fail)) <;> (try (conv => whnf))
 all_goals first
  | ((refine Ends.go ((⟨room, true, ops, life, 0, kind, more⟩ : Dk)) ?_ [] (Fit.q cvDiskOps2 (by rfl) (by rfl))); unfold offD; dsimp only at hb ⊢; subst hb; rfl)
  | ((refine Ends.go ((⟨room, true, ops, life + 1, 0, kind, more⟩ : Dk)) ?_ [] (Fit.q cvDiskOps2 (by rfl) (by rfl))); unfold offD; dsimp only at hb ⊢; subst hb; rfl)
  | trace_state
section
variable (S : Nat → Prop) (D : DM) (hD : D.Ok)
include hD
theorem drop_c (s : ByteArray) : CallOb Tryz.prog 76 [ptr 0, .string s] [(0, diskI S D)] 1 (AbsP (fun a : Int => iv a) (fun a D' => (a, D') = dropD D s)) := by
 refine of_raw Tryz.call76 fun E C hp => (drop_l D.k s E C hD.k (names_nodup hp hD.fs.sorted)).conv ?_
 rintro v h1 n1 ⟨⟨a, k, o⟩, hR, rfl, rfl, rfl⟩ F B w0 m w c H hv
 dsimp only at hR H hv
 have done : ∀ {fs' : Fs}, (a, (⟨k, fs'⟩ : DM)) = dropD D s → (∃ S, HRel F B w0 m [(0, diskI S ⟨k, fs'⟩)] 3 w) → ∃ m' v' h2 n2, m.le m' ∧ VR m' v' c ∧ HRel F B w0 m' h2 n2 w ∧ AbsP (fun a : Int => iv a) (fun a D' => (a, D') = dropD D s) v' h2 n2 := by
  rintro fs' hr ⟨S, H'⟩
  exact ⟨m, iv a, _, 20, BM.le_refl m, hv, H'.up (BM.le_refl m) H'.fn (fun i g s x => Nat.lt_of_lt_of_le (H'.fresh i g s x) (by decide)), a, _, S, hr, rfl, rfl, rfl⟩
 rcases hR with ⟨rfl, hR, h0⟩ | ⟨q, L, X, rfl, hR, hq, h0⟩
 · refine done (fs' := D.fs) ?_ (close_raw H hp)
   unfold dropD
   rw [found_none hp hD.fs.sorted hR]
   dsimp only
   rw [if_pos h0]
 · obtain ⟨hf, hx⟩ := found_some hp hD.fs.sorted hR hq
   have hl : (filesOf E)[q]? = some (s, X) := by rw [List.getElem?_map, hq]; rfl
   refine done (fs' := delF D.fs s) ?_ (close_raw H ?_)
   · unfold dropD
     rw [hf]
     dsimp only
     rw [if_neg (by decide), h0]
   · show (filesOf (E.eraseIdx q)).Perm _
     have : filesOf (E.eraseIdx q) = (filesOf E).eraseIdx q := map_eraseIdx _ _ _
     rw [this]
     exact del_perm hp hD.fs.sorted hl (perm_erase hl)
theorem room_c (a : Int) (h1 : -9223372036854775808 ≤ a ∧ a ≤ 9223372036854775807) : CallOb Tryz.prog 27 [ptr 0, iv a] [(0, diskI S D)] 1 (AbsP (fun _ : Unit => .tuple ([] : List Value).toArray) (fun _ D' => D' = roomD D a)) :=
 of_raw Tryz.call27 fun E C hp => lit_abs (fun _ => rfl) hD.fs.sorted hp (room_l D.k a E C h1) fun _ k o ⟨ho, hk⟩ => ⟨D.fs, by subst ho; rfl, by rw [hk]; rfl⟩
theorem offd_c : CallOb Tryz.prog 98 [ptr 0] [(0, diskI S D)] 1 (AbsP (fun _ : Unit => .tuple ([] : List Value).toArray) (fun _ D' => D' = offD D)) :=
 of_raw Tryz.call98 fun E C hp => lit_abs (fun _ => rfl) hD.fs.sorted hp (off_l D.k E C hD.k) fun _ k o ⟨ho, hk⟩ => ⟨D.fs, by subst ho; rfl, by rw [hk]; rfl⟩
theorem size_c (s : ByteArray) : CallOb Tryz.prog 18 [ptr 0, .string s] [(0, diskI S D)] 1 (AbsP (fun a : Int => iv a) (fun a D' => D' = D ∧ a = sizeD D s)) := by
 refine of_raw Tryz.call18 fun E C hp => ?_
 rcases Classical.em (∀ e ∈ E, e.1 ≠ s) with hN | hN
 · exact lit_abs (fun _ => rfl) hD.fs.sorted hp (size_n D.k s E C hN) fun _ k o ⟨ho, hk, ha⟩ => ⟨D.fs, by subst ho; rfl, by rw [hk], by rw [ha]; unfold sizeD; rw [find_no hp hN]⟩
 · obtain ⟨e, he, hs⟩ : ∃ e ∈ E, e.1 = s := Classical.byContradiction fun h => hN fun e he hs => h ⟨e, he, hs⟩
   obtain ⟨q, hq⟩ := List.mem_iff_getElem?.1 he
   obtain ⟨t, L, X⟩ := e
   dsimp only at hs
   subst hs
   have hx := find_perm hp hD.fs.sorted hq
   refine lit_abs (vT := fun a : Int => iv a) (R := fun a k' o => k' = D.k ∧ a = (L.pn.length : Nat) ∧ o = some (q, fxOf L X, X) ∧ FxOk C (fxOf L X) X) (fun _ => rfl) hD.fs.sorted hp (of_foc Tryz.call18 hq fun hok _ => (size_f D.k t E C q L X (names_nodup hp hD.fs.sorted) hq).mono fun v h n ⟨z, hz, h1, h2, h3⟩ => ⟨z, D.k, some (q, fxOf L X, X), ⟨rfl, hz, rfl, hok⟩, h1, h2, h3⟩) ?_
   rintro a k o ⟨rfl, rfl, rfl, hok⟩
   refine ⟨_, ⟨t, L, X, hq, hok, rfl⟩, by rw [put_same hD.fs.sorted hx], ?_⟩
   unfold sizeD
   rw [hx]
   show ((L.pn.length : Nat) : Int) = (X.now.length : Nat)
   rw [show L.pn.length = X.now.length from hok.c1.len]
end
end Go.Proofs.YtelolcagncgfpaaGreat
