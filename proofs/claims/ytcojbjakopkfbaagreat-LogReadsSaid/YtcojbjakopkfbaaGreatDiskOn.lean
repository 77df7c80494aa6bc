/- The disk: a file's sectors by their fates. The disk: all names, rising; the power is there again. -/
import Derived.Test.YtcojbjakopkfbaaGreatDiskFs
import Derived.Test.YtcojbjakopkfbaaGreatDiskWriteC
import Derived.Test.YtcojbjakopkfbaaGreatEngX
import Derived.Test.YtcojbjakopkfbaaGreatDiskOps
import Derived.Test.YtcojbjakopkfbaaGreatIter
import Derived.Shelf.SlIter.Nil
import Derived.Shelf.SortM.Plain
import Derived.Shelf.SortM.SortNone
namespace Go.Proofs.YtcojbjakopkfbaaGreat
open Go.RowKit
set_option linter.unusedSimpArgs false
set_option linter.unusedVariables false
theorem zero_is : strOf (List.replicate (256 : Int).toNat 0) = zero256 := rfl
attribute [local irreducible] bytesOf strOf strEq strLt sfrom begS fates fateAt usedV fillI
theorem usedV_none {l : List Int} (h : (l.length : Int) = 0) (u : Nat) : usedV l u = 0 ∧ fateAt l u = 0 := by
 have : l = [] := List.eq_nil_of_length_eq_zero (by omega)
 unfold usedV fateAt
 rw [if_pos this, if_pos this]; exact ⟨rfl, rfl⟩
theorem usedV_some {l : List Int} (h : ¬ (l.length : Int) = 0) (u : Nat) : usedV l u = u ∧ 0 < l.length ∧ l[u % l.length]? = some (fateAt l u) := by
 have h0 : l ≠ [] := fun e => h (by rw [e]; rfl)
 have hp : 0 < l.length := List.length_pos_iff.2 h0
 unfold usedV fateAt
 rw [if_neg h0, if_neg h0]
 refine ⟨rfl, hp, ?_⟩
 have := Nat.mod_lt u hp
 rw [List.getD_eq_getElem?_getD, List.getElem?_eq_getElem this]; rfl
theorem rnDiskOn1 {p : Prop} (h : p := by refine ⟨?_, ?_, ?_⟩; (first | apply rR_tuple | apply rR_one rfl | exact rfl); all_goals (repeat' (first | (with_reducible (first | exact relH_nil | apply rn_lst | apply rn_own | apply rn_mp | apply rn_row | apply rn_abs | exact wo_nil)) | apply wo_keep rfl | apply wo_drop rfl | exact relH_nil | exact r1_flat rfl | exact r0_flat rfl | exact rl_nil | exact wo_nil | exact bk_old rfl | exact bk_new rfl | exact bk_nil rfl | apply rl_cons | (first | exact relL_still hvs | exact relL_still (still_map (fun _ => rfl) _) | exact relL_still (still_map ro_still _) | exact relL_flat (flat_map (fun _ => rfl) _) | apply relL_set) | exact relL_flat (flat_map (fun _ => rfl) _) | exact relL_flat flat_nil | apply relL_to | apply rn_lst | apply rn_own | apply rn_mp | apply rn_row | apply relH_view rfl | apply relH_lview rfl | apply relH_fact rfl | exact r1_rig | exact r0_rig | exact r1_rigs | exact r0_rigs | apply wo_keep rfl | apply wo_drop rfl | apply r1_agg | apply rn_ptr | apply rn_slice | apply rn_slice0 | apply rn_iface | apply rn_map | apply rn_ifacem | apply r0_map | apply r0_ifacem | apply r0_ptr | apply r0_slice | apply r0_slice0 | apply r0_iface)); (first | done | fail)) : p := h
theorem cvDiskOn2 {p : Prop} (h : p := by have nw := True.intro; (repeat' (first | exact True.intro | (with_reducible exact rfl) | (with_reducible exact AbsLe.refl) | (guard_target =~ @Eq Nat _ _; first | exact rfl | omega) | (guard_target =~ List.map _ _ = []; exact rfl) | (first | first | exact covL_still rfl hvs | exact covL_still rfl (still_map (fun _ => rfl) _) | exact covL_still rfl (still_map ro_still _) | (apply covL_set <;> (try clear nw) <;> have nw := True.intro) | exact congrArg (Value.int _) (by (try dsimp only); omega)) | (exact congrArg (Value.int _) (by omega)) | (exact covL_flat (flat_map (fun _ => rfl) _)) | (exact covL_flat flat_nil) | (refine covP_all ?_; (try clear nw); have nw := True.intro) | (refine covL_each ?_; (try clear nw); have nw := True.intro) | (refine ⟨?_, ?_⟩ <;> (try clear nw) <;> have nw := True.intro) | (guard_hyp nw : True; ((conv => whnf) <;> clear nw)))); (first | done | fail)) : p := h
set_option maxRecDepth 100000 in
theorem fate_c (l : List Int) (cap u : Nat) (hl : l.length ≤ 9223372036854775807) (hu : u ≤ 1000000000) :
 CallOb Tryz.prog 77 [ptr 0, ptr 1] [(0, .own 46 [mslice 2 l.length cap]), (1, .own 3 [iv (usedV l u)]), (2, .lview (l.map iv))] 3
  (fun v hh m => ∃ z : Int × Int, (z.1 = fateAt l u ∧ z.2 = usedV l (u + 1)) ∧ v = iv z.1 ∧ hh = [(0, .own 46 [mslice 2 l.length cap]), (1, .own 3 [iv z.2])] ∧ m = 3) := by
 refine call_spec tabOk mixed Tryz.call77 Tryz.func77 rfl [(4, [(0, true), (1, true), (2, true), (3, true), (4, true), (5, true), (6, true), (7, true), (8, true)])] (fun z : Int × Int => z.1 = fateAt l u ∧ z.2 = usedV l (u + 1)) (fun z => iv z.1) (fun z => [(0, .own 46 [mslice 2 l.length cap]), (1, .own 3 [iv z.2])]) (fun _ => 3) ?_ ?_
 · exact (Nat.le_of_ble_eq_true rfl)
 obtain ⟨a, ha⟩ : ∃ a, a = usedV l u := ⟨_, rfl⟩
 rw [← ha]
 have hab : 0 ≤ a ∧ a ≤ 1000000000 := by rw [ha]; unfold usedV; split <;> omega
 (repeat' ((try (conv => whnf)); first | (guard_target =~ ∃ (_ : Value), ∃ (_ : HP), ∃ (_ : HP), _; refine ⟨_, _, _, rnDiskOn1, ?_⟩; (try (dsimp only [Nat.reduceAdd, bC, bL]))) | (guard_target =~ ∃ (_ : Nat), _ ∧ _; obtain ⟨hs1, hs2, hs3⟩ := usedV_some (l := l) (by assumption) u; refine ⟨u % l.length, (by rw [show a + 1 - 1 = ((u : Nat) : Int) by omega]; exact Int.ofNat_tmod u l.length), Nat.mod_lt u hs2, ?_⟩) | (with_reducible first | refine chk_in (Nat.ble_eq_true_of_le omT) ?_ | (refine ifB_in ?_ ?_ <;> intro hb <;> (try simp only [bN1, bN2, bN3, bN4, bN5, bN6, bN7, bN8, bN9, bN0] at hb) <;> (try (exfalso; omega))) | refine ⟨_, w64b _, ?_⟩ | refine ⟨_, w64 omT omT, ?_⟩ | refine ⟨_, wu64 omT omT, ?_⟩ | refine ⟨_, wu8 omT omT, ?_⟩ | refine ⟨_, w64 szT szT, ?_⟩ | refine ⟨_, rfl, ?_⟩ | refine ⟨rfl, ?_⟩) | intro cap | (with_reducible refine ⟨trivial, ?_⟩) | (guard_target =~ (planChk _ _ = true) ∧ _; refine ⟨by kernel_rfl, ?_⟩) | (guard_target =~ (_ ∧ _) ∧ _; refine ⟨by ((repeat (first | exact trivial | refine ⟨rfl, ?_⟩)); (first | done | fail)), ?_⟩) | refine ⟨by omega, ?_⟩ | refine ⟨szT, ?_⟩ | refine ⟨0, rfl, ?_⟩ | refine ⟨1, rfl, ?_⟩ | refine ⟨2, rfl, ?_⟩ | refine ⟨3, rfl, ?_⟩ | refine ⟨4, rfl, ?_⟩ | refine ⟨5, rfl, ?_⟩ | (refine cell_at1 (by assumption) ?_) | (refine cell_in1 omT (fun x hx => ?_)) | fail)) <;> (try (conv => whnf))
 all_goals first
  | ((refine Ends.go (((0, a) : Int × Int)) ?_ [] (Fit.q cvDiskOn2 (by rfl) (by rfl))); exact ⟨(usedV_none (by assumption) u).2.symm, by rw [ha, (usedV_none (by assumption) u).1, (usedV_none (by assumption) (u + 1)).1]⟩)
  | ((refine Ends.go (((fateAt l u, a + 1) : Int × Int)) ?_ [] (Fit.q cvDiskOn2 (by rfl) (by rfl))); exact ⟨rfl, by rw [ha, hs1, (usedV_some (by assumption) (u + 1)).1]; rfl⟩)
  | trace_state
theorem isP_ros (l : List (Option Nat)) : ∀ v ∈ l.map ro, isP v := fun v hv => by obtain ⟨g, _, rfl⟩ := List.mem_map.1 hv; cases g with | none => exact .inl rfl | some g => exact .inr ⟨g, rfl⟩
theorem putro {ps : List (Option Nat)} {i p : Nat} : putL (ps.map ro) (0 + i * 1) [rp p] = (ps.set i (some p)).map ro := by rw [putL_one, List.map_set]; rfl
theorem ro_set {m : BM} (hf : m.Fn) {i j g : Nat} (hm : m j g 0) {ps : List (Option Nat)} {l : List Value} (h : LR (V1 m) ((ps.map ro).set i (ptr j)) l) : LR (V1 m) ((ps.set i (some g)).map ro) l := by
 have h2 : LR (V1 m) ((ps.map ro).set i (ptr j)) ((ps.map co).set i (cp g)) := (ros_cos.2 rfl).set i (ptr_cp hm)
 rw [LR.fn (R := V1 m) (fun _ _ _ => V1.fn hf) h h2]
 exact ros_cos.2 (by rw [List.map_set]; rfl)
abbrev nextF : Value := .func (.func 77) #[] #[ptr 4, ptr 5]
abbrev fatH (x : Fx) (E : EL) (C : CM) (l : List Int) (cap u : Nat) : HP := fileH x ++ [(4, .own 46 [mslice 6 l.length cap]), (5, .own 3 [iv (usedV l u)]), (6, .lview (l.map iv)), (7, restI E C)]
abbrev fhL (pn : List Nat) (ws : List Bool) (sure : Bool) (ka kb kc n : Nat) (ps : List (Option Nat)) (us : Int) (l : List Int) (cap : Nat) (E : EL) (C : CM) : HP :=
 [(0, .own 86 [mslice 1 pn.length ka, mslice 2 n kb, mslice 3 ws.length kc, .bool sure]), (1, .lst 87 1 ka (pn.map fun p => rp p)), (2, .lst 87 1 kb (ps.map ro)), (3, .lst 4 1 kc (ws.map .bool)),
  (4, .own 46 [mslice 6 l.length cap]), (5, .own 3 [iv us]), (6, .lview (l.map iv)), (7, restI E C)]
structure F1 where
 i : Nat
 ps : List (Option Nat)
 C : CM
 u : Nat
structure F3 where
 i : Nat
 ps : List (Option Nat)
 C : CM
theorem putros {ps : List (Option Nat)} {i j : Nat} : putL (ps.map ro) (0 + i * 1) [ptr j] = (ps.map ro).set i (ptr j) := putL_one _ _ _
theorem covL_putros {np : Nat} {L : IdMap} {ps : List (Option Nat)} {k i j : Nat} (e : cov1 np L (ptr i) (ptr j)) : covL np L ((ps.map ro).set k (ptr i)) (putL (ps.map ro) (0 + k * 1) [ptr j]) := by
 rw [putros]; exact covL_setp (isP_ros _) e
theorem fill_keep {C : CM} {ps : List (Option Nat)} {T : List (Option Cv)} {i p : Nat} (h : All2 (SafeC C) ps (fillI T i)) (hp : ps[i]? = some (some p)) : All2 (SafeC C) ps (fillI T (i + 1)) := by
 obtain ⟨s, e1, e2⟩ := safe_at h hp
 cases s with
 | none => exact absurd (e2.2 rfl) (fun h => by cases h)
 | some c => rw [fillI_keep (fillI_at e1)]; exact h
theorem fill_new {C : CM} {ps : List (Option Nat)} {T : List (Option Cv)} {i : Nat} (h : All2 (SafeC C) ps (fillI T i)) (hp : ps[i]? = some none) (g : Nat) : All2 (SafeC ((g, some zero256) :: C)) (ps.set i (some g)) (fillI T (i + 1)) := by
 obtain ⟨s, e1, e2⟩ := safe_at h hp
 obtain rfl := e2.1 rfl
 rw [fillI_new (fillI_at e1)]
 exact All2.set i (SafeC.more (fun x hx => List.mem_cons_of_mem _ hx) h) (List.Mem.head _)
theorem trim_ps {C : CM} {ps : List (Option Nat)} {S : List (Option Cv)} (hS : All2 (SafeC C) ps S) {x : Nat} (h1 : x ≤ ps.length) (h2 : ∀ j, x ≤ j → j < ps.length → ps[j]? = some none) (h3 : x = 0 ∨ ∃ p, ps[x - 1]? = some (some p)) : trimC S = S.take x := by
 have hl := hS.len
 refine trim_at (by omega) (h3.imp id ?_) ?_
 · rintro ⟨p, hp⟩
   obtain ⟨s, e1, e2⟩ := safe_at hS hp
   cases s with
   | none => exact absurd (e2.2 rfl) (fun h => by cases h)
   | some c => exact ⟨c, e1⟩
 · intro j hj1 hj2
   obtain ⟨s, e1, e2⟩ := safe_at hS (h2 j hj1 (by omega))
   rw [e1, e2.1 rfl]
theorem down_none {ps : List (Option Nat)} {k n : Nat} (h : k ≤ n ∧ ∀ j, k ≤ j → j < ps.length → ps[j]? = some none) (hp : ps[k - 1]? = some none) : k - 1 ≤ n ∧ ∀ j, k - 1 ≤ j → j < ps.length → ps[j]? = some none := by
 refine ⟨by omega, fun j h1 h2 => ?_⟩
 rcases Nat.lt_or_ge j k with h3 | h3
 · obtain rfl : j = k - 1 := by omega
   exact hp
 · exact h.2 j h3 h2
theorem fated_end {l : List Int} {X : Fl} {u0 u x i : Nat} {C1 C3 : CM} {ps1 ps3 : List (Option Nat)} {S : List (Option Cv)} {sure : Bool} (hS : All2 (SafeC C1) ps1 S) (hSf : fates l X.now X.safe X.wait u0 = (S, u)) (h1 : x ≤ ps1.length) (h2 : ∀ j, x ≤ j → j < ps1.length → ps1[j]? = some none) (h3 : x = 0 ∨ ∃ p, ps1[x - 1]? = some (some p))
 (h4 : All2 (SafeC C3) ps3 (fillI (S.take x) i)) (hi : x ≤ i) (hsure : sure = X.sure) : ∃ pn : List Nat, ps3 = pn.map some ∧ ∀ ka kb kc, FxOk C3 ⟨pn, pn.map some, List.replicate pn.length false, sure, ka, kb, kc⟩ (fatedF l X u0).1 ∧ u = (fatedF l X u0).2 := by
 rw [fillI_all (by rw [List.length_take]; omega)] at h4
 obtain ⟨pn, rfl, h5⟩ := some_all h4
 refine ⟨pn, rfl, fun ka kb kc => ?_⟩
 unfold fatedF
 rw [hSf]
 dsimp only
 rw [trim_ps hS h1 h2 h3]
 exact ⟨⟨h5, h4, by rw [h5.len], hsure⟩, rfl⟩
theorem freeze_ro {F : Nat → Prop} {B : Nat} {w0 : World} {m : BM} {n : Nat} {w : World} {h : HP} {E : EL} {C : CM} {ps : List (Option Nat)} {i kb q r s : Nat} {c : Cv} (H : HRel F B w0 m h n w) (eq : lkH h q = some (.own 90 (cellv c))) (er : lkH h r = some (restI E C)) (es : lkH h s = some (.lst 87 1 kb ((ps.map ro).set i (ptr q)))) (hqr : q ≠ r) (hqs : q ≠ s) (hrs : r ≠ s) :
 ∃ g, HRel F B w0 m (upH ((r, restI E ((g, c) :: C)) :: rmHs [q, r] h) s (.lst 87 1 kb ((ps.set i (some g)).map ro))) n w := by
 obtain ⟨g, hg, H1⟩ := freeze H eq er hqr
 refine ⟨g, H1.re (i := s) (it := .lst 87 1 kb ((ps.map ro).set i (ptr q))) ?_ (fun _ => rfl) (fun _ _ _ hb => hb) (fun g' s' _ ok => lst_re ok fun l hl => ro_set H.fn hg hl)⟩
 rw [lkH_cons hrs]
 show lkH (rmH (rmH h q) r) s = _
 rw [lkH_rm, if_neg (fun e => hrs e.symm), lkH_rm, if_neg (fun e => hqs e.symm)]
 exact es
theorem cvDiskOn3 {p : Prop} (h : p := by have nw := True.intro; (repeat' (first | exact True.intro | (with_reducible exact rfl) | (with_reducible exact AbsLe.refl) | (guard_target =~ @Eq Nat _ _; first | exact rfl | omega) | (guard_target =~ List.map _ _ = []; exact rfl) | (first | exact congrArg Value.string zero_is | exact congrArg Value.string zero_is.symm | exact covL_still putro (still_map ro_still _) | apply covL_putros | exact covP_take _ (covL_still List.map_take.symm (still_map ro_still _)) | exact covL_still (map_some_ro _).symm (still_map (fun _ => rfl) _) | exact covL_of ((rep_flat _).trans (by rw [List.length_map])) (flat_map (fun _ => rfl) _) | (guard_target =~ @Eq Nat _ _; simp only [List.length_map, List.length_replicate, List.length_set]; done) | first | exact covL_still rfl hvs | exact covL_still rfl (still_map (fun _ => rfl) _) | exact covL_still rfl (still_map ro_still _) | (apply covL_set <;> (try clear nw) <;> have nw := True.intro) | exact congrArg (Value.int _) (by (try dsimp only); omega)) | (exact congrArg (Value.int _) (by omega)) | (exact covL_flat (flat_map (fun _ => rfl) _)) | (exact covL_flat flat_nil) | (refine covP_all ?_; (try clear nw); have nw := True.intro) | (refine covL_each ?_; (try clear nw); have nw := True.intro) | (refine ⟨?_, ?_⟩ <;> (try clear nw) <;> have nw := True.intro) | (guard_hyp nw : True; ((conv => whnf) <;> clear nw)))); (first | done | fail)) : p := h
set_option maxRecDepth 100000 in
set_option maxHeartbeats 4000000 in
theorem fated_l (x : Fx) (X : Fl) (E : EL) (C : CM) (l : List Int) (cap u0 : Nat) (hok : FxOk C x X) (hcp : FxCap x) (hX : X.Ok) (hl : l.length ≤ 9223372036854775807) (hu : u0 ≤ 900000000) :
 CallOb Tryz.prog 79 [ptr 0, nextF] (fatH x E C l cap u0) 8 (fun v hh m => ∃ z : Fx × CM × Nat, (FxOk z.2.1 z.1 (fatedF l X u0).1 ∧ z.2.2 = (fatedF l X u0).2) ∧ v = .tuple ([] : List Value).toArray ∧ hh = [(0, fileJ 8 2 9 z.1), (8, nowI z.1), (2, safeI z.1), (9, waitI z.1), (4, .own 46 [mslice 6 l.length cap]), (5, .own 3 [iv (usedV l z.2.2)]), (7, restI E z.2.1)] ∧ m = 20) := by
 refine call_spec tabOk mixed Tryz.call79 Tryz.func79 rfl [(6, [(0, true), (1, true), (2, true), (3, true), (4, true), (5, true), (6, true), (7, true), (8, true), (9, true), (10, true), (11, true), (12, true), (1013, false)]), (10, [(0, true), (1, true), (2, true), (3, true), (4, true), (5, true), (6, true), (7, true), (8, true), (9, true), (10, true), (11, true), (12, true), (13, true), (14, true), (15, true), (16, true), (17, true), (18, true), (19, true), (20, true)]), (11, [(0, true), (1, true), (2, true), (3, true), (4, true), (5, true), (6, true), (7, true), (8, true), (9, true), (10, true), (11, true), (12, true), (13, true), (1014, false)]), (16, [(0, true), (1, true), (2, true), (3, true), (4, true), (5, false), (6, true), (7, false), (8, true), (1009, false)])] (fun z : Fx × CM × Nat => FxOk z.2.1 z.1 (fatedF l X u0).1 ∧ z.2.2 = (fatedF l X u0).2) (fun z => .tuple ([] : List Value).toArray) (fun z => [(0, fileJ 8 2 9 z.1), (8, nowI z.1), (2, safeI z.1), (9, waitI z.1), (4, .own 46 [mslice 6 l.length cap]), (5, .own 3 [iv (usedV l z.2.2)]), (7, restI E z.2.1)]) (fun _ => 20) ?_ ?_
 · exact (Nat.le_of_ble_eq_true rfl)
 obtain ⟨pn, ps, ws, sure, ka, kb, kc⟩ := x
 have hcb : ps.length ≤ kb := hcp.b
 have hws : ws = X.wait := hok.ws
 have e1 : pn.length = X.now.length := hok.c1.len
 have e2 : ps.length = X.safe.length := hok.c2.len
 have e3 := hX.safe
 have e4 := hX.wait
 have e5 := hX.len
 subst hws
 (repeat' ((try (conv => whnf)); first | (guard_target =~ ∃ (_ : Value), ∃ (_ : HP), ∃ (_ : HP), _; refine ⟨_, _, _, rnDiskOn1, ?_⟩; (try (dsimp only [Nat.reduceAdd, bC, bL]))) | (guard_hyp k : F1; rcases k with ⟨i, ps1, C1, u⟩; dsimp only [fhL] at hk ⊢; have mk1 : 1 = 1 := rfl; have hkl := hk.len; have hki := hk.le; have hku := hk.used) | ((guard_target =~ CallOb _ 77 _ _ _ _; refine call_q (fate_c l cap u hl omT) [(0, some 4), (1, some 5), (2, some 6)] cvDiskOn3 rfT rfT rfT (fun v h1 n1 hp => ?_); obtain ⟨⟨fz, us⟩, hfz, rfl, rfl, rfl⟩ := hp); (try (dsimp only [Nat.reduceAdd, bC, bL]))) | (guard_hyp k : F3; rcases k with ⟨i3, ps3, C3⟩; dsimp only [fhL] at hk3 ⊢; have mk3 : 3 = 3 := rfl; have h3l : ps3.length = (S.take x2).length := hk3.1.len.trans (fillI_len _ _); have h3k : (S.take x2).length = x2 := (by rw [List.length_take]; omega)) | (guard_target =~ ∃ (_ : Nat), ∃ (_ : Nat), _; refine ⟨ps3.length, ps3.length, rfl, rfl, Nat.le_refl _, by omega, by omega, ?_⟩) | (guard_target =~ ∃ (_ : Nat), _ ∧ _; first | (guard_hyp mk3 : 3 = 3; refine ⟨i3, by omega, by omega, ?_⟩) | (guard_hyp mk2 : 2 = 2; refine ⟨k - 1, by omega, by omega, ?_⟩) | (guard_hyp mk1 : 1 = 1; refine ⟨i, by omega, by omega, ?_⟩)) | (guard_target =~ CallOb _ 90 _ _ _ _; obtain rfl : x2 = ps3.length := omT; refine call_q (clone_c ro ps3 kb (fun p => by cases p <;> rfl) ro_still omT) [(0, some 2)] cvDiskOn3 rfT rfT rfT (fun v h1 n1 hp => ?_); obtain ⟨cap2, hcap2, rfl, rfl, rfl⟩ := hp; (try (dsimp only [Nat.reduceAdd, bC, bL]))) | (guard_target =~ CallOb _ 53 _ _ _ _; (with_reducible refine call_pure Tryz.call53 (c_noughts 256 omT omT) ?_ ?_ ?_); exact rfl; exact rfl) | (guard_target =~ LoopOb _ _ _ _ _ _ _ _; guard_hyp mk2 : 2 = 2; refine loop_sem tabOk mixed [(6, [(0, true), (1, true), (2, true), (3, true), (4, true), (5, true), (6, true), (7, true), (8, true), (9, true), (10, true), (11, true), (12, true), (1013, false)]), (10, [(0, true), (1, true), (2, true), (3, true), (4, true), (5, true), (6, true), (7, true), (8, true), (9, true), (10, true), (11, true), (12, true), (13, true), (14, true), (15, true), (16, true), (17, true), (18, true), (19, true), (20, true)]), (11, [(0, true), (1, true), (2, true), (3, true), (4, true), (5, true), (6, true), (7, true), (8, true), (9, true), (10, true), (11, true), (12, true), (13, true), (1014, false)]), (16, [(0, true), (1, true), (2, true), (3, true), (4, true), (5, false), (6, true), (7, false), (8, true), (1009, false)])] 9 (fun k : F3 => [(0, ptr 0), (86, mslice 2 x2 kb), (87, iv (x2 : Nat)), (88, iv (k.i : Nat))]) (fun k => fhL pn X.wait sure ka kb kc x2 k.ps (usedV l u) l cap E k.C) (fun k => x2 - k.i) (fun k => All2 (SafeC k.C) k.ps (fillI (S.take x2) k.i) ∧ k.i ≤ x2 ∧ ∀ y ∈ C1, y ∈ k.C) (sem_start ⟨0, ps1.take x2, C1⟩ ⟨by rw [fillI_0]; exact hS.take x2, Nat.zero_le _, fun _ h => h⟩ [(8, none)] (Sub.q cvDiskOn3 (by rfl) (by rfl))) (fun k hk3 => ?_)) | (guard_target =~ LoopOb _ _ _ _ _ _ _ _; guard_hyp mk1 : 1 = 1; have mk2 : 2 = 2 := rfl; obtain ⟨S, hS, hSl, hSf⟩ := hk.done omT hX; have hmore := hk.more; refine loop_join tabOk mixed [(6, [(0, true), (1, true), (2, true), (3, true), (4, true), (5, true), (6, true), (7, true), (8, true), (9, true), (10, true), (11, true), (12, true), (1013, false)]), (10, [(0, true), (1, true), (2, true), (3, true), (4, true), (5, true), (6, true), (7, true), (8, true), (9, true), (10, true), (11, true), (12, true), (13, true), (14, true), (15, true), (16, true), (17, true), (18, true), (19, true), (20, true)]), (11, [(0, true), (1, true), (2, true), (3, true), (4, true), (5, true), (6, true), (7, true), (8, true), (9, true), (10, true), (11, true), (12, true), (13, true), (1014, false)]), (16, [(0, true), (1, true), (2, true), (3, true), (4, true), (5, false), (6, true), (7, false), (8, true), (1009, false)])] 8 (fun k : Nat => [(0, ptr 0)]) (fun k => fhL pn X.wait sure ka kb kc k ps1 (usedV l u) l cap E C1) (fun k => k) (fun k => k ≤ ps.length ∧ ∀ j, k ≤ j → j < ps1.length → ps1[j]? = some none) ps.length 3 8 (fun x : Nat => [(0, ptr 0)]) (fun x => fhL pn X.wait sure ka kb kc x (ps1.take x) (usedV l u) l cap E C1) (fun x => x ≤ ps.length ∧ (∀ j, x ≤ j → j < ps1.length → ps1[j]? = some none) ∧ (x = 0 ∨ ∃ p, ps1[x - 1]? = some (some p))) ⟨Nat.le_refl _, fun j h1 h2 => by omega⟩ ⟨[], Sub.q cvDiskOn3 (by rfl) (by rfl)⟩ (fun k hk2 => ?_) (fun x2 hx2 => ?_)) | (guard_target =~ LoopOb _ _ _ _ _ _ _ _; refine loop_sem tabOk mixed [(6, [(0, true), (1, true), (2, true), (3, true), (4, true), (5, true), (6, true), (7, true), (8, true), (9, true), (10, true), (11, true), (12, true), (1013, false)]), (10, [(0, true), (1, true), (2, true), (3, true), (4, true), (5, true), (6, true), (7, true), (8, true), (9, true), (10, true), (11, true), (12, true), (13, true), (14, true), (15, true), (16, true), (17, true), (18, true), (19, true), (20, true)]), (11, [(0, true), (1, true), (2, true), (3, true), (4, true), (5, true), (6, true), (7, true), (8, true), (9, true), (10, true), (11, true), (12, true), (13, true), (1014, false)]), (16, [(0, true), (1, true), (2, true), (3, true), (4, true), (5, false), (6, true), (7, false), (8, true), (1009, false)])] 9 (fun k : F1 => [(0, ptr 0), (1, nextF), (11, mslice 3 X.wait.length kc), (12, iv (X.wait.length : Nat)), (13, iv (k.i : Nat))]) (fun k => fhL pn X.wait sure ka kb kc ps.length k.ps (usedV l k.u) l cap E k.C) (fun k => pn.length - k.i) (fun k => F1R l X pn C u0 k.i k.ps k.C k.u) (sem_start ⟨0, ps, C, u0⟩ (F1R.start hok.c1 hok.c2 hX) [(8, none)] (Sub.q cvDiskOn3 (by rfl) (by rfl))) (fun k hk => ?_)) | (refine chk_in (Nat.ble_eq_true_of_le (by simp only [List.length_map, Itm.cells]; omega)) ?_) | (refine cell_in1 (l := X.wait) (f := Value.bool) omT (fun wb hwb => ?_)) | (refine cell_in1 (l := pn) (f := fun p => rp p) omT (fun pp hpp => ?_)) | (refine cell_in1 (l := ps1) (f := ro) omT (fun pq hpq => ?_); rcases pq with _ | pq) | (refine cell_in1 (l := ps3) (f := ro) omT (fun pq hpq => ?_); rcases pq with _ | pq) | (with_reducible first | refine chk_in (Nat.ble_eq_true_of_le omT) ?_ | (refine ifB_in ?_ ?_ <;> intro hb <;> (try simp only [bN1, bN2, bN3, bN4, bN5, bN6, bN7, bN8, bN9, bN0] at hb) <;> (try (exfalso; omega))) | refine ⟨_, w64b _, ?_⟩ | refine ⟨_, w64 omT omT, ?_⟩ | refine ⟨_, wu64 omT omT, ?_⟩ | refine ⟨_, wu8 omT omT, ?_⟩ | refine ⟨_, w64 szT szT, ?_⟩ | refine ⟨_, rfl, ?_⟩ | refine ⟨rfl, ?_⟩) | intro cap | (with_reducible refine ⟨trivial, ?_⟩) | (guard_target =~ (planChk _ _ = true) ∧ _; refine ⟨by kernel_rfl, ?_⟩) | (guard_target =~ (_ ∧ _) ∧ _; refine ⟨by ((repeat (first | exact trivial | refine ⟨rfl, ?_⟩)); (first | done | fail)), ?_⟩) | refine ⟨by omega, ?_⟩ | refine ⟨szT, ?_⟩ | refine ⟨0, rfl, ?_⟩ | refine ⟨1, rfl, ?_⟩ | refine ⟨2, rfl, ?_⟩ | refine ⟨3, rfl, ?_⟩ | refine ⟨4, rfl, ?_⟩ | refine ⟨5, rfl, ?_⟩ | (refine cell_at1 (by assumption) ?_) | (refine cell_in1 omT (fun x hx => ?_)) | fail)) <;> (try (conv => whnf))
 all_goals first
  | (refine sem_round [(0, ptr 0), (1, nextF), (11, mslice 3 X.wait.length kc), (12, iv (X.wait.length : Nat)), (13, iv ((i + 1 : Nat) : Int))] (fhL pn X.wait sure ka kb kc ps.length ps1 (usedV l u) l cap E C1) [(8, none)] (Sub.q cvDiskOn3 (by rfl) (by rfl)) (fun F B w0 m w H => ⟨⟨i + 1, ps1, C1, u⟩, hk.skip (by rw [← ‹wb = false›]; assumption) (by omega), by dsimp only; omega, H, rfl⟩))
  | (obtain ⟨rfl, rfl⟩ := hfz; refine sem_round [(0, ptr 0), (1, nextF), (11, mslice 3 X.wait.length kc), (12, iv (X.wait.length : Nat)), (13, iv ((i + 1 : Nat) : Int))] (fhL pn X.wait sure ka kb kc ps.length (ps1.set i (some pp)) (usedV l (u + 1)) l cap E C1) [(8, none)] (Sub.q cvDiskOn3 (by rfl) (by rfl)) (fun F B w0 m w H => ⟨⟨i + 1, _, C1, u + 1⟩, hk.kept (by rw [← ‹wb = true›]; assumption) (by omega) hpp (by assumption), by dsimp only; omega, H, rfl⟩))
  | (obtain ⟨rfl, rfl⟩ := hfz; refine sem_round [(0, ptr 0), (1, nextF), (11, mslice 3 X.wait.length kc), (12, iv (X.wait.length : Nat)), (13, iv ((i + 1 : Nat) : Int))] (fhL pn X.wait sure ka kb kc ps.length ps1 (usedV l (u + 1)) l cap E C1) [(8, none)] (Sub.q cvDiskOn3 (by rfl) (by rfl)) (fun F B w0 m w H => ⟨⟨i + 1, _, C1, u + 1⟩, hk.lost (by rw [← ‹wb = true›]; assumption) (by omega) (by assumption) (by assumption), by dsimp only; omega, H, rfl⟩))
  | (obtain ⟨rfl, rfl⟩ := hfz; refine sem_round [(0, ptr 0), (1, nextF), (11, mslice 3 X.wait.length kc), (12, iv (X.wait.length : Nat)), (13, iv ((i + 1 : Nat) : Int))] [(0, .own 86 [mslice 1 pn.length ka, mslice 2 ps.length kb, mslice 3 X.wait.length kc, .bool sure]), (1, .lst 87 1 ka (pn.map fun p => rp p)), (2, .lst 87 1 kb ((ps1.map ro).set i (ptr 8))), (3, .lst 4 1 kc (X.wait.map .bool)),
  (4, .own 46 [mslice 6 l.length cap]), (5, .own 3 [iv (usedV l (u + 1))]), (6, .lview (l.map iv)), (7, restI E C1), (8, .own 90 (cellv none))] [(8, some 12)] (Sub.q cvDiskOn3 (by rfl) (by rfl)) (fun F B w0 m w H => ?_); obtain ⟨g, H2⟩ := freeze_ro H (q := 8) (r := 7) (s := 2) (i := i) (ps := ps1) (kb := kb) (c := none) rfl rfl rfl (by decide) (by decide) (by decide)
     exact ⟨⟨i + 1, _, (g, none) :: C1, u + 1⟩, hk.torn (by rw [← ‹wb = true›]; assumption) (by omega) g (by assumption), by dsimp only; omega, H2.sub_of (fun j jt e => by (have := lkH_mem e; simp only [List.mem_cons, Prod.mk.injEq, List.not_mem_nil, or_false] at this; rcases this with ⟨rfl, rfl⟩ | ⟨rfl, rfl⟩ | ⟨rfl, rfl⟩ | ⟨rfl, rfl⟩ | ⟨rfl, rfl⟩ | ⟨rfl, rfl⟩ | ⟨rfl, rfl⟩ | ⟨rfl, rfl⟩ <;> rfl)), rfl⟩)
  | (guard_hyp k : Nat; (refine Gone.go (k) ?_ [] (Sub.q cvDiskOn3 (by rfl) (by rfl))); exact ⟨hk2.1, hk2.2, .inl (by omega)⟩)
  | (guard_hyp k : Nat; (refine Gone.go (k) ?_ [] (Sub.q cvDiskOn3 (by rfl) (by rfl))); exact ⟨hk2.1, hk2.2, .inr ⟨pq, hpq⟩⟩)
  | (guard_hyp k : Nat; (refine Again.go (k - 1) ?_ (by (try dsimp only); omega) [] (Sub.q cvDiskOn3 (by rfl) (by rfl))); exact down_none hk2 hpq)
  | (refine sem_round [(0, ptr 0), (86, mslice 2 x2 kb), (87, iv (x2 : Nat)), (88, iv ((i3 + 1 : Nat) : Int))] (fhL pn X.wait sure ka kb kc x2 ps3 (usedV l u) l cap E C3) [(8, none)] (Sub.q cvDiskOn3 (by rfl) (by rfl)) (fun F B w0 m w H => ⟨⟨i3 + 1, ps3, C3⟩, ⟨fill_keep hk3.1 hpq, by dsimp only; omega, hk3.2.2⟩, by dsimp only; omega, H, rfl⟩))
  | (refine sem_round [(0, ptr 0), (86, mslice 2 x2 kb), (87, iv (x2 : Nat)), (88, iv ((i3 + 1 : Nat) : Int))] [(0, .own 86 [mslice 1 pn.length ka, mslice 2 x2 kb, mslice 3 X.wait.length kc, .bool sure]), (1, .lst 87 1 ka (pn.map fun p => rp p)), (2, .lst 87 1 kb ((ps3.map ro).set i3 (ptr 8))), (3, .lst 4 1 kc (X.wait.map .bool)),
  (4, .own 46 [mslice 6 l.length cap]), (5, .own 3 [iv (usedV l u)]), (6, .lview (l.map iv)), (7, restI E C3), (8, .own 90 (cellv (some zero256)))] [(8, some 9)] (Sub.q cvDiskOn3 (by rfl) (by rfl)) (fun F B w0 m w H => ?_); obtain ⟨g, H2⟩ := freeze_ro H (q := 8) (r := 7) (s := 2) (i := i3) (ps := ps3) (kb := kb) (c := some zero256) rfl rfl rfl (by decide) (by decide) (by decide)
     exact ⟨⟨i3 + 1, _, (g, some zero256) :: C3⟩, ⟨fill_new hk3.1 hpq g, by dsimp only; omega, fun y hy => List.mem_cons_of_mem _ (hk3.2.2 y hy)⟩, by dsimp only; omega, H2.sub_of (fun j jt e => by (have := lkH_mem e; simp only [List.mem_cons, Prod.mk.injEq, List.not_mem_nil, or_false] at this; rcases this with ⟨rfl, rfl⟩ | ⟨rfl, rfl⟩ | ⟨rfl, rfl⟩ | ⟨rfl, rfl⟩ | ⟨rfl, rfl⟩ | ⟨rfl, rfl⟩ | ⟨rfl, rfl⟩ | ⟨rfl, rfl⟩ <;> rfl)), rfl⟩)
  | (obtain ⟨pn2, rfl, hend⟩ := fated_end hS hSf (by omega) hx2.2.1 hx2.2.2 hk3.1 (by omega) hok.sure; (refine Ends.go (((⟨pn2, pn2.map some, List.replicate pn2.length false, sure, cap2, kb, (pn2.map some).length⟩, C3, u) : Fx × CM × Nat)) ?_ [(8, some 10), (9, some 11)] (Fit.q cvDiskOn3 (by rfl) (by rfl))); exact hend _ _ _)
  | trace_state
end Go.Proofs.YtcojbjakopkfbaaGreat
namespace Go.Proofs.YtcojbjakopkfbaaGreat
open Go.RowKit Go.Maps Go.Sort Go.Shelf
set_option linter.unusedSimpArgs false
set_option linter.unusedVariables false
def anyV : Value → Option (DataW Unit × List MemPlace) := fun _ => some (.nil, [])
def keyB (x : MapEntry) : List UInt8 := match x.key with | .string s => bytesOf s | _ => []
theorem keyB_rd {x : MapEntry} (hx : ∃ s : ByteArray, x.key = .string s ∧ s.size ≤ maxLen) : WideElems.rd Tryz.prog 9 anyV x = some (.string (keyB x), .nil) := by
 obtain ⟨s, hk, hs⟩ := hx
 have h : keyOf Tryz.prog 9 (.string s) = some (.string s.data.toList) := Go.WideMaps.keyOf_string_mk Tryz.underlying9 hs
 unfold WideElems.rd keyB
 rw [hk, h]
 rfl
set_option maxRecDepth 100000 in
theorem keys_own {w : World} {bm clock : Nat} {es : Array MapEntry} (hb : w.heap[bm]? = some (.map es clock)) (hst : MapKept.Stamped es clock) (hk : ∀ x ∈ es.toList, ∃ s : ByteArray, x.key = .string s ∧ s.size ≤ maxLen) (hn : es.size ≤ maxLen) :
 w.ownsMap Tryz.prog 9 anyV bm es.size (.map ((es.toList.map (WideElems.rg Tryz.prog 9 anyV)).foldr DataW.insert [])) ∧
  (strKeys (.map ((es.toList.map (WideElems.rg Tryz.prog 9 anyV)).foldr DataW.insert []))).Perm (es.toList.map keyB) ∧ Maps.size (.map ((es.toList.map (WideElems.rg Tryz.prog 9 anyV)).foldr DataW.insert [])) = es.size := by
 refine ⟨⟨es, clock, hb, ⟨hn, hst, fun x hx => ⟨_, keyB_rd (hk x hx)⟩⟩, Nat.le_refl _, rfl⟩, ?_, ?_⟩
 · refine ((WideShapes.sorted_perm _).map _).trans ?_
   rw [List.map_map]
   refine List.Perm.of_eq (List.map_congr_left fun x hx => ?_)
   show Go.strOf (WideElems.rg _ _ _ x).1 = keyB x
   unfold WideElems.rg
   rw [keyB_rd (hk x hx)]
   rfl
 · show List.length (List.foldr DataW.insert [] _) = _
   rw [(WideShapes.sorted_perm _).length_eq, List.length_map, Array.length_toList]
theorem sorts_in (m : Nat) : AnyZ.SortsIn Tryz.prog Tryz.iterS103_ren Fence.wide m :=
 ⟨fun blk off cap ss W hH hblk hsz => callsIn_wide.2 (AnyM.slices_Sort_string Tryz.iterO120 blk off cap ss W hH hblk hsz),
  fun p cap W => callsIn_wide.2 (AnyM.slices_Sort_string_none Tryz.iterO120 p cap W)⟩
set_option maxHeartbeats 1000000 in
set_option maxRecDepth 100000 in
theorem names_w (w : World) (g bm : Nat) (k : Dk) (es : Array MapEntry) (clock : Nat) (hd : Blk w g 75 (dkv bm k).toArray) (hb : w.heap[bm]? = some (.map es clock)) (hst : MapKept.Stamped es clock)
 (hk : ∀ x ∈ es.toList, ∃ s : ByteArray, x.key = .string s ∧ s.size ≤ maxLen) (hn : es.size ≤ 1000000) :
 Calls Tryz.prog 78 #[.pointer (some ⟨g, 0, none⟩)] w fun e w' => ∃ (v : Value) (ss : List (List UInt8)), e = .returned v ∧ ss.Perm (es.toList.map keyB) ∧
  w'.ownsRow w.heap.size 9 1 v ss.length ((ss.mergeSort leB).map encStr) ∧ Below w.heap.size w w' := by
 refine (callsIn_wide (n := 6)).1 ?_
 obtain ⟨hown, hperm, hsize⟩ := keys_own hb hst hk (Nat.le_trans hn (by unfold maxLen; decide))
 have hbl := hown.lt
 generalize (.map ((es.toList.map (WideElems.rg Tryz.prog 9 anyV)).foldr DataW.insert []) : DataW Unit) = D0 at hown hperm hsize
 have hc0 : w.cell? ⟨g, 0, none⟩ = some (.map (some bm)) := by rw [hd.cell]; rfl
 have hseq : SeqGives Fence.wide 2 Tryz.prog 121 #[.pointer (some ⟨w.heap.size, 0, none⟩)] encStr (fun ss => ss.Perm (strKeys D0)) (Maps.size D0) (w.alloc (.cells #[.map (some bm)] 73)) :=
  AnyZ.keys_gives (ρ := Tryz.iterK104_ren) { Tryz.iterK104 with } Fence.wide _ trivial rfl (by omega) w.heap.size bm es.size D0 _ (by simp) (by simp) (by
   obtain ⟨es, clock, hb, Ft, hs, hD⟩ := hown
   exact ⟨es, clock, (Below.heap_alloc _ _ bm hbl).trans hb, Ft, hs, hD⟩)
 have cK : ∀ mb W, CallsIn Fence.wide 5 Tryz.prog 104 #[.map mb] W fun e w' => e = .returned (.func (.func 121) #[] #[.pointer (some ⟨W.heap.size, 0, none⟩)]) ∧ w' = W.alloc (.cells #[.map mb] 73) := fun mb W => AnyZ.keys_in Tryz.iterK104 Fence.wide 5 trivial rfl mb W
 have cS := AnyZ.sorted_in Tryz.iterS103 Fence.wide 5 trivial trivial trivial trivial rfl (by omega) (sorts_in _) (enters_of Tryz.func120 (by kernel_rfl) rfl) 121 #[.pointer (some ⟨w.heap.size, 0, none⟩)] trivial (enters_of Tryz.func121 (by kernel_rfl) rfl) _ _ (by rw [hsize]; unfold maxLen; omega) (by rw [hsize]; omega) _ hseq
 change CallsIn _ _ Tryz.prog 103 _ _ _ at cS
 have hfK : Fence.wide.fn 104 := trivial
 have hfS : Fence.wide.fn 103 := trivial
 refine callsIn_of_wp Tryz.func78 rfl trivial ?_ rfl
 simp only [Tryz.ntmps78, List.size_toArray, List.length_cons, List.length_nil, Nat.reduceAdd, Nat.reduceSub, Array.replicate_succ, Array.replicate_zero, List.push_toArray, List.append_toArray, List.nil_append, List.cons_append]
 gi_wp2_with (first
  | (gi_at_call 104; refine (cK _ _).mono ?_; rintro e w' ⟨rfl, rfl⟩)
  | (gi_at_call 103; refine cS.mono ?_; rintro e w' ⟨v, ss, rfl, hS, hrow, hnil, hb⟩)
  | gi_in)
 go_ret
 exact ⟨v, ss, rfl, hS.trans hperm, ownsRow_base_a hrow (by simp), ((Below.refl _ w).alloc (Nat.le_refl _) _).trans (hb.mono (by simp))⟩
abbrev nmL (fs : Fs) : List Value := fs.map fun p => .string p.1
theorem nm_sorted {fs : Fs} (hs : Sorted fs) {ss : List (List UInt8)} (hp : ss.Perm (fs.map fun p => bytesOf p.1)) : (ss.mergeSort leB).map encStr = nmL fs := by
 have e : ss.mergeSort leB = fs.map fun p => bytesOf p.1 := by
  have tr : ∀ a b c : List UInt8, leB a b = true → leB b c = true → leB a c = true := fun a b c h1 h2 => by simp only [leB, decide_eq_true_eq] at *; exact List.le_trans h1 h2
  have tt : ∀ a b : List UInt8, (leB a b || leB b a) = true := fun a b => by simp only [leB, Bool.or_eq_true, decide_eq_true_eq]; exact List.le_total a b
  refine List.Perm.eq_of_pairwise (le := fun a b => leB a b = true) (fun a b _ _ h1 h2 => ?_) (List.pairwise_mergeSort tr tt ss) ?_ ((List.mergeSort_perm ss leB).trans hp)
  · simp only [leB, decide_eq_true_eq] at h1 h2
    exact List.le_antisymm h1 h2
  · rw [List.pairwise_map]
    exact hs.imp fun h => by
     have := (strLt_iff _ _).1 h
     simp only [leB, decide_eq_true_eq]
     exact List.le_of_lt this
 rw [e, List.map_map]
 rfl
theorem flat_names (l : Fs) : ∀ u ∈ nmL l, flat1 u = true := fun u hu => by obtain ⟨x, _, rfl⟩ := List.mem_map.1 hu; rfl
set_option maxRecDepth 100000 in
theorem names_l (k : Dk) (E : EL) (C : CM) (fs : Fs) (hp : (filesOf E).Perm fs) (hs : Sorted fs) (hn : ∀ p ∈ fs, goodName p.1 = true) (hE : fs.length ≤ 1000000) :
 CallOb Tryz.prog 78 [ptr 0] (rawH k E C) 3 (fun v h n => ∃ cap : Nat, fs.length ≤ cap ∧ v = mslice 3 fs.length cap ∧ h = (3, .lst 9 1 cap (nmL fs)) :: rawH k E C ∧ n = 4) := by
 refine ⟨Tryz.call78, fun F B w0 m w cs H ha => ?_⟩
 match cs, ha with
 | [c], ⟨hc, _⟩ =>
  obtain ⟨b, hb, rfl⟩ := VR.ptr hc
  obtain ⟨g, s, hg, hs0, rfl⟩ := hb.old
  obtain ⟨rfl, _, l, hl, hblk⟩ := H.at (i := 0) rfl hg
  obtain ⟨gj, sj, hgj, rfl, _, A, clk, h1, h2, h3⟩ := H.dom 1 _ rfl
  have hl' : l = dkv gj k := by
   match l, hl with
   | [v1, v2, v3, v4, v5, v6, v7, v8], ⟨q1, q2, q3, q4, q5, q6, q7, q8, _⟩ =>
    obtain ⟨b, hb, rfl⟩ : ∃ b, A0 m ⟨1, 0, none⟩ b ∧ v1 = .map (some b.block) := (V1.of0 rfl).1 q1
    obtain ⟨g', s', hm, _, rfl⟩ := hb.old
    obtain ⟨rfl, rfl⟩ := H.fn _ _ _ _ _ hm hgj
    rw [(V1.flat rfl).1 q2, (V1.flat rfl).1 q3, (V1.flat rfl).1 q4, (V1.flat rfl).1 q5, (V1.flat rfl).1 q6, (V1.flat rfl).1 q7, (V1.flat rfl).1 q8]
  subst hl'
  have hsz : A.size = fs.length := by
   have := congrArg List.length h2
   rw [List.length_map, List.length_map, Array.length_toList] at this
   rw [this, ← hp.length_eq, List.length_map]
  have hkeys : A.toList.map keyB = E.map fun e => bytesOf e.1 := by
   have := congrArg (List.map fun v : Value => match v with | .string s => bytesOf s | _ => []) h2
   rw [List.map_map, List.map_map] at this
   exact this
  have hk : ∀ x ∈ A.toList, ∃ s : ByteArray, x.key = .string s ∧ s.size ≤ maxLen := fun x hx => by
   have hx' : x.key ∈ names E := h2 ▸ List.mem_map_of_mem hx
   obtain ⟨e, he, hxe⟩ := List.mem_map.1 hx'
   refine ⟨e.1, hxe.symm, ?_⟩
   have hgood := hn (e.1, e.2.2) (hp.mem_iff.1 (List.mem_map.2 ⟨e, he, rfl⟩))
   unfold goodName at hgood
   rw [Bool.and_eq_true, decide_eq_true_eq] at hgood
   exact Nat.le_trans hgood.2 (by unfold maxLen; decide)
  rw [show (⟨g, 0 + sh 0, none⟩ : Addr) = ⟨g, 0, none⟩ by rw [sh_zero]]
  refine (names_w w g gj k A clk hblk h1.1 h1.2 hk (by omega)).mono ?_
  rintro e w' ⟨v, ss, rfl, hperm, hrow, hbel⟩
  have hss : ss.Perm (fs.map fun p => bytesOf p.1) := by
   rw [hkeys] at hperm
   refine hperm.trans ?_
   have := hp.map fun p : ByteArray × Fl => bytesOf p.1
   rwa [List.map_map] at this
  have hlen : ss.length = fs.length := by rw [hss.length_eq, List.length_map]
  rw [nm_sorted hs hss, hlen] at hrow
  rcases hrow.2 with ⟨rfl, h0⟩ | ⟨gb, c, cur, rfl, hge, hcur, r1, r2, r3, r4⟩
  · have hf0 : fs = [] := List.eq_nil_of_length_eq_zero h0
    subst hf0
    have H2 := (H.later hbel).pushNilA 9 1 (wcode none)
    exact ⟨_, _, _, _, _, rfl, BM.le_put _ _ _ _, VR.nilA m 3 none, H2, 0, Nat.le_refl _, rfl, rfl, rfl⟩
  · have H2 := H.push hbel (it := .lst 9 1 c (nmL fs)) hge (.inr ⟨rfl, .inl (Nat.le_trans H.base' hge), r2, nmL fs, cur, LR.refl_of (fun u hu => (V1.flat (flat_names _ u hu)).2 rfl), hcur, r3, by rw [List.length_map]; simpa using r4, by rw [List.length_map, r3]; omega⟩) rfl
    exact ⟨_, _, _, _, _, rfl, BM.le_add _ _ _, VR.newM _ _ _ _ _, H2, c, r1, rfl, rfl, rfl⟩
end Go.Proofs.YtcojbjakopkfbaaGreat
namespace Go.Proofs.YtcojbjakopkfbaaGreat
open Go.RowKit
set_option linter.unusedSimpArgs false
set_option linter.unusedVariables false
theorem sem_round2 {N np n0 : Nat} {ι : Type} {I : ι → TM} {J : ι → HP} {μ : ι → Nat} {R : ι → Prop} {i : ι} {t : TM} {h : HP} {n : Nat} (n1 : Nat) (T' : TM) (H' : HP) (L : IdMap) (s : Sub np T' H' n1 t h L)
 (k : ∀ F B w0 m w, HRel F B w0 m H' n1 w → ∃ i' m', R i' ∧ μ i' < μ i ∧ m.le m' ∧ HRel F B w0 m' (J i') n0 w ∧ I i' = T') : AgainS N np n0 I J μ R i t h n :=
 .go fun F B w0 m w a H ht => let ⟨i', m', h1, h2, hle, h3, h4⟩ := k F B w0 _ w (H.sub s.ok s.oki s.hp); ⟨i', m', h1, h2, fun _ _ _ hi x => hle _ _ _ (via_leN m np L _ _ _ hi x), h3, h4 ▸ (ht.sub s.tm).mono hle⟩
theorem sem_start2 {N np n0 : Nat} {ι : Type} {I : ι → TM} {J : ι → HP} {R : ι → Prop} {t : TM} {h : HP} {n : Nat} (n1 : Nat) (T' : TM) (H' : HP) (L : IdMap) (s : Sub np T' H' n1 t h L)
 (k : ∀ F B w0 m w, HRel F B w0 m H' n1 w → ∃ i' m', R i' ∧ m.le m' ∧ HRel F B w0 m' (J i') n0 w ∧ I i' = T') :
 ∀ F B w0 m w a, HRel F B w0 m h n w → TRel m N t a → ∃ i0 m', R i0 ∧ BM.leN np m m' ∧ HRel F B w0 m' (J i0) n0 w ∧ TRel m' N (I i0) a := fun F B w0 m w a H ht =>
 let ⟨i', m', h1, hle, h3, h4⟩ := k F B w0 _ w (H.sub s.ok s.oki s.hp); ⟨i', m', h1, fun _ _ _ hi x => hle _ _ _ (via_leN m np L _ _ _ hi x), h3, h4 ▸ (ht.sub s.tm).mono hle⟩
def onX (l : List Int) (X : Fl) (u : Nat) : Fl := { (fatedF l X u).1 with sure := true }
theorem onF_cons (l : List Int) (s : ByteArray) (X : Fl) (r : Fs) (u : Nat) : onF l ((s, X) :: r) u = if (fatedF l X u).1.now = [] ∧ X.sure = false then onF l r (fatedF l X u).2 else (s, onX l X u) :: onF l r (fatedF l X u).2 := rfl
structure OnQ (l : List Int) (fs0 : Fs) (i u : Nat) (E : EL) : Prop where
 ex : ∃ dn : Fs, onF l fs0 0 = dn ++ onF l (fs0.drop i) u ∧ (filesOf E).Perm (dn ++ fs0.drop i) ∧ (dn.map fun p => p.1).Sublist ((fs0.take i).map fun p => p.1)
 le : i ≤ fs0.length
 used : u ≤ 16384 * i
theorem OnQ.start {l : List Int} {fs0 : Fs} {E : EL} (h : (filesOf E).Perm fs0) : OnQ l fs0 0 0 E := ⟨⟨[], rfl, h, List.Sublist.refl _⟩, Nat.zero_le _, Nat.zero_le _⟩
theorem OnQ.done {l : List Int} {fs0 : Fs} {i u : Nat} {E : EL} (h : OnQ l fs0 i u E) (hi : fs0.length ≤ i) : (filesOf E).Perm (onF l fs0 0) := by
 obtain ⟨dn, h1, h2, _⟩ := h.ex
 rw [List.drop_of_length_le hi] at h1 h2
 rw [h1]
 exact h2
theorem names_nd {fs : Fs} (hs : Sorted fs) : (fs.map fun p => p.1).Nodup := by
 rw [List.Nodup, List.pairwise_map]
 exact hs.imp fun h e => by rw [e] at h; exact strLt_irrefl _ h
theorem OnQ.nd {l : List Int} {fs0 : Fs} {i u : Nat} {E : EL} (h : OnQ l fs0 i u E) (hs : Sorted fs0) : (E.map fun e => e.1).Nodup := by
 obtain ⟨dn, _, h2, h3⟩ := h.ex
 have e : (E.map fun e => e.1) = (filesOf E).map fun p => p.1 := by rw [List.map_map]; rfl
 rw [e, (h2.map fun p => p.1).nodup_iff, List.map_append]
 refine List.Sublist.nodup ?_ (names_nd hs)
 have h4 : (fs0.map fun p => p.1) = (fs0.take i).map (fun p => p.1) ++ (fs0.drop i).map (fun p => p.1) := by rw [← List.map_append, List.take_append_drop]
 rw [h4]
 exact List.Sublist.append h3 (List.Sublist.refl _)
theorem OnQ.at {l : List Int} {fs0 : Fs} {i u : Nat} {E : EL} (h : OnQ l fs0 i u E) {s : ByteArray} {X : Fl} (hi : fs0[i]? = some (s, X)) : ∃ (q : Nat) (L : LF), E[q]? = some (s, L, X) := by
 obtain ⟨dn, _, h2, _⟩ := h.ex
 have hm : (s, X) ∈ filesOf E := h2.mem_iff.2 (List.mem_append_right _ (by rw [drop_at hi]; exact List.Mem.head _))
 obtain ⟨e, he, h3⟩ := List.mem_map.1 hm
 obtain ⟨q, hq⟩ := List.mem_iff_getElem?.1 he
 obtain ⟨t, L, Y⟩ := e
 cases h3
 exact ⟨q, L, hq⟩
section
variable {l : List Int} {fs0 : Fs} {i u : Nat} {E : EL} {s : ByteArray} {X : Fl} {q : Nat} {L : LF}
theorem OnQ.rest (h : OnQ l fs0 i u E) (hi : fs0[i]? = some (s, X)) (hq : E[q]? = some (s, L, X)) : ∃ dn : Fs, onF l fs0 0 = dn ++ onF l ((s, X) :: fs0.drop (i + 1)) u ∧ (filesOf (E.eraseIdx q)).Perm (dn ++ fs0.drop (i + 1)) ∧ (dn.map fun p => p.1).Sublist ((fs0.take i).map fun p => p.1) ∧ i < fs0.length := by
 obtain ⟨dn, h1, h2, h3⟩ := h.ex
 rw [drop_at hi] at h1 h2
 have hl : (filesOf E)[q]? = some (s, X) := by rw [List.getElem?_map, hq]; rfl
 have he : filesOf (E.eraseIdx q) = (filesOf E).eraseIdx q := map_eraseIdx _ _ _
 refine ⟨dn, h1, ?_, h3, (List.getElem?_eq_some_iff.1 hi).1⟩
 rw [he]
 exact (((perm_erase hl).trans h2).trans List.perm_middle).cons_inv
theorem fated_used (hX : X.Ok) : (fatedF l X u).2 ≤ u + 16384 := by
 have key : ∀ (ns : List Cv) (ss : List (Option Cv)) (ws : List Bool) (u : Nat), (fates l ns ss ws u).2 ≤ u + ns.length := by
  intro ns
  induction ns with
  | nil => intro ss ws u; exact Nat.le_refl _
  | cons n ns ih =>
   intro ss ws u
   cases ss with
   | nil => simp [fates]
   | cons s ss =>
    cases ws with
    | nil => simp [fates]
    | cons w ws =>
     cases w with
     | true => have := ih ss ws (u + 1); simp only [fates, List.length_cons]; omega
     | false => have := ih ss ws u; simp only [fates, List.length_cons]; omega
 have h1 := key X.now X.safe X.wait u
 have h2 := hX.len
 show (fates l X.now X.safe X.wait u).2 ≤ _
 omega
theorem OnQ.gone (h : OnQ l fs0 i u E) (hi : fs0[i]? = some (s, X)) (hq : E[q]? = some (s, L, X)) (hX : X.Ok) (h1 : (fatedF l X u).1.now = []) (h2 : X.sure = false) : OnQ l fs0 (i + 1) (fatedF l X u).2 (E.eraseIdx q) := by
 obtain ⟨dn, e1, e2, e3, hlt⟩ := h.rest hi hq
 rw [onF_cons, if_pos ⟨h1, h2⟩] at e1
 refine ⟨⟨dn, e1, e2, ?_⟩, hlt, ?_⟩
 · rw [List.take_add_one, hi, List.map_append]
   exact e3.trans (List.sublist_append_left _ _)
 · have := fated_used (l := l) (u := u) hX; have := h.used; omega
theorem OnQ.kept (h : OnQ l fs0 i u E) (hi : fs0[i]? = some (s, X)) (hq : E[q]? = some (s, L, X)) (hX : X.Ok) (h1 : ¬ ((fatedF l X u).1.now = [] ∧ X.sure = false)) (L' : LF) : OnQ l fs0 (i + 1) (fatedF l X u).2 (E.set q (s, L', onX l X u)) := by
 obtain ⟨dn, e1, e2, e3, hlt⟩ := h.rest hi hq
 rw [onF_cons, if_neg h1] at e1
 have hql : q < E.length := (List.getElem?_eq_some_iff.1 hq).1
 refine ⟨⟨dn ++ [(s, onX l X u)], ?_, ?_, ?_⟩, hlt, ?_⟩
 · rw [e1, List.append_assoc]; rfl
 · have hp : (filesOf (E.set q (s, L', onX l X u))).Perm ((s, onX l X u) :: filesOf (E.eraseIdx q)) := ((erase_set_perm (s, L', onX l X u) hql).map fun e : ByteArray × LF × Fl => (e.1, e.2.2)).symm
   refine hp.trans ((e2.cons _).trans ?_)
   rw [List.append_assoc]
   exact List.perm_middle.symm
 · rw [List.take_add_one, hi, List.map_append, List.map_append]
   exact List.Sublist.append e3 (List.Sublist.refl _)
 · have := fated_used (l := l) (u := u) hX; have := h.used; omega
end
abbrev onRaw (k : Dk) (E : EL) (C : CM) (l : List Int) (cap : Nat) (us : Int) (fs0 : Fs) (capn : Nat) : HP :=
 [(0, .own 75 (dkv 2 k)), (1, .lview (l.map iv)), (2, .mp (names E) (spots E)), (3, restI E C), (4, .own 46 [mslice 1 l.length cap]), (5, .own 3 [iv us]), (6, .lst 9 1 capn (nmL fs0))]
abbrev onFoc (k : Dk) (E : EL) (q : Nat) (C : CM) (x : Fx) (l : List Int) (cap : Nat) (us : Int) (fs0 : Fs) (capn : Nat) : HP :=
 [(0, .own 75 (dkv 2 k)), (1, .lview (l.map iv)), (2, .mp (names E) ((spots E).set q (ptr 12))), (3, restI (E.eraseIdx q) C), (4, .own 46 [mslice 1 l.length cap]), (5, .own 3 [iv us]), (6, .lst 9 1 capn (nmL fs0)),
  (12, fileI 12 x), (13, nowI x), (14, safeI x), (15, waitI x)]
structure OS where
 i : Nat
 E : EL
 C : CM
 u : Nat
 foc : Option (Nat × Fx)
abbrev OS.h (k : Dk) (l : List Int) (cap : Nat) (fs0 : Fs) (capn : Nat) (z : OS) : HP := match z.foc with
 | none => onRaw k z.E z.C l cap (usedV l z.u) fs0 capn
 | some (q, x) => onFoc k z.E q z.C x l cap (usedV l z.u) fs0 capn
structure OnR (l : List Int) (fs0 : Fs) (z : OS) : Prop where
 q : OnQ l fs0 z.i z.u z.E
 foc : match z.foc with
  | none => z.i = fs0.length
  | some (q, x) => ∃ (s : ByteArray) (L : LF) (X : Fl), fs0[z.i]? = some (s, X) ∧ z.E[q]? = some (s, L, X) ∧ x = fxOf L X ∧ FxOk z.C x X ∧ FxCap x
theorem open_next {F : Nat → Prop} {B : Nat} {w0 : World} {m : BM} {w : World} {k : Dk} {E : EL} {C : CM} {l : List Int} {cap u : Nat} {fs0 : Fs} {capn i : Nat} (H : HRel F B w0 m (onRaw k E C l cap (usedV l u) fs0 capn) 12 w) (hq : OnQ l fs0 i u E) :
 ∃ (z : OS) (m' : BM), OnR l fs0 z ∧ z.i = i ∧ m.le m' ∧ HRel F B w0 m' (z.h k l cap fs0 capn) 16 w := by
 rcases Nat.lt_or_ge i fs0.length with hi | hi
 · obtain ⟨⟨s, X⟩, hs⟩ : ∃ p, fs0[i]? = some p := ⟨_, List.getElem?_eq_getElem hi⟩
   obtain ⟨q, L, hE⟩ := hq.at hs
   obtain ⟨m', hle, h3, H', c1, c2, c3, c4, c5⟩ := open_file H (j := 2) (r := 3) (q := q) (s := s) (L := L) (X := X) rfl rfl (by decide) hE
   refine ⟨⟨i, E, C, u, some (q, fxOf L X)⟩, m', ⟨hq, s, L, X, hs, hE, rfl, ⟨c1, c2, rfl, rfl⟩, ⟨c3, c4, c5⟩⟩, rfl, hle, H'.sub_of fun j it e => ?_⟩
   have e : lkH (onFoc k E q C (fxOf L X) l cap (usedV l u) fs0 capn) j = some it := e
   have := lkH_mem e
   simp only [List.mem_cons, Prod.mk.injEq, List.not_mem_nil, or_false] at this
   rcases this with ⟨rfl, rfl⟩ | ⟨rfl, rfl⟩ | ⟨rfl, rfl⟩ | ⟨rfl, rfl⟩ | ⟨rfl, rfl⟩ | ⟨rfl, rfl⟩ | ⟨rfl, rfl⟩ | ⟨rfl, rfl⟩ | ⟨rfl, rfl⟩ | ⟨rfl, rfl⟩ | ⟨rfl, rfl⟩ <;> rfl
 · refine ⟨⟨i, E, C, u, none⟩, m, ⟨hq, Nat.le_antisymm hq.le hi⟩, rfl, BM.le_refl m, H.up (BM.le_refl m) H.fn fun i g s x => Nat.lt_of_lt_of_le (H.fresh i g s x) (by decide)⟩
theorem close_next {F : Nat → Prop} {B : Nat} {w0 : World} {m : BM} {w : World} {k : Dk} {E : EL} {C : CM} {l : List Int} {cap : Nat} {us : Int} {fs0 : Fs} {capn q : Nat} {s : ByteArray} {L : LF} {X X' : Fl} {x : Fx}
 (H : HRel F B w0 m [(0, .own 75 (dkv 2 k)), (1, .lview (l.map iv)), (2, .mp (names E) ((spots E).set q (ptr 8))), (3, restI (E.eraseIdx q) C), (4, .own 46 [mslice 1 l.length cap]), (5, .own 3 [iv us]), (6, .lst 9 1 capn (nmL fs0)), (8, fileI 8 x), (9, nowI x), (10, safeI x), (11, waitI x)] 12 w)
 (hq : E[q]? = some (s, L, X)) (ok : FxOk C x X') : ∃ L' : LF, HRel F B w0 m (onRaw k (E.set q (s, L', X')) C l cap us fs0 capn) 12 w := by
 have hlt : q < E.length := (List.getElem?_eq_some_iff.1 hq).1
 obtain ⟨X'1, X'2, X'3, X'4⟩ := X'
 obtain ⟨c1, c2, c3, c4⟩ := ok
 dsimp only at c1 c2 c3 c4
 obtain ⟨L', hm, H2⟩ := close_file H (f := 8) (a := 9) (b := 10) (c := 11) (r := 3) s rfl rfl rfl rfl rfl rfl rfl rfl (by simp) c1 c2
 rw [c3, c4] at H2
 let E' : EL := E.set q (s, L', ⟨X'1, X'2, X'3, X'4⟩)
 have hn : names E' = names E := by
  apply List.ext_getElem?
  intro i
  rw [List.getElem?_map, List.getElem?_map, List.getElem?_set]
  split
  · rename_i hi
    subst hi
    rw [hq]
    simp [hlt]
  · rfl
 have H3 := H2.re (i := 2) (it := .mp (names E) ((spots E).set q (ptr 8))) (it' := .mp (names E') (spots E')) rfl (fun _ => rfl) (fun _ _ _ hb => hb) (fun g' s' _ okm => by
  obtain ⟨a, b, A, clk, y1, y2, y3⟩ := okm
  refine ⟨a, b, A, clk, y1, hn ▸ y2, spots_cps.2 ?_⟩
  rw [spots_set hq H2.fn hm y3]
  show _ = (E.set q _).map _
  rw [List.map_set])
 have H4 := H3.re (i := 3) (it := restI ((s, L', ⟨X'1, X'2, X'3, X'4⟩) :: E.eraseIdx q) C) (it' := restI E' C) rfl (fun _ => rfl) (fun _ _ b hb => (SR.perm (erase_set_perm _ hlt)).2 hb) (fun g' s' hg' ok => by
  obtain ⟨a, b, c, _, d⟩ := ok
  exact ⟨a, fun x hx => b x ((SR.perm (erase_set_perm _ hlt)).2 hx), fun e x hx => c e x ((SR.perm (erase_set_perm _ hlt)).2 hx), RestAt.stab _ _, d.perm (erase_set_perm _ hlt)⟩)
 refine ⟨L', H4.sub_of fun j it e => ?_⟩
 have := lkH_mem e
 simp only [List.mem_cons, Prod.mk.injEq, List.not_mem_nil, or_false] at this
 rcases this with ⟨rfl, rfl⟩ | ⟨rfl, rfl⟩ | ⟨rfl, rfl⟩ | ⟨rfl, rfl⟩ | ⟨rfl, rfl⟩ | ⟨rfl, rfl⟩ | ⟨rfl, rfl⟩ <;> rfl
theorem usedV_0 (l : List Int) : usedV l 0 = 0 := by unfold usedV; split <;> rfl
theorem now_nil {C : CM} {y : Fx} {Y : Fl} (h : FxOk C y Y) (h0 : (y.pn.length : Int) = 0) : Y.now = [] := List.eq_nil_of_length_eq_zero (by have := h.c1.len; omega)
theorem now_some {C : CM} {y : Fx} {Y : Fl} (h : FxOk C y Y) (h0 : ¬ (y.pn.length : Int) = 0) : Y.now ≠ [] := fun e => h0 (by have := h.c1.len; rw [e] at this; rw [this]; rfl)
theorem fated_sure (l : List Int) (X : Fl) (u : Nat) : (fatedF l X u).1.sure = X.sure := rfl
theorem ok_sure {C : CM} {y : Fx} {l : List Int} {X : Fl} {u : Nat} (h : FxOk C y (fatedF l X u).1) : FxOk C ⟨y.pn, y.ps, y.ws, true, y.ka, y.kb, y.kc⟩ (onX l X u) := ⟨h.c1, h.c2, h.ws, rfl⟩
attribute [local irreducible] bytesOf strOf strEq strLt sfrom begS fates fateAt usedV fillI fatedF onF
def OnO (l : List Int) (k : Dk) (E : EL) (C : CM) (fs : Fs) (z : Dk × EL × CM) : Prop :=
 (k.down = false ∧ z = (k, E, C)) ∨ (k.down = true ∧ z.1 = { k with down := false } ∧ (filesOf z.2.1).Perm (onF l fs 0))
theorem cvDiskOn4 {p : Prop} (h : p := by have nw := True.intro; (repeat' (first | exact True.intro | (with_reducible exact rfl) | (with_reducible exact AbsLe.refl) | (guard_target =~ @Eq Nat _ _; first | exact rfl | omega) | (guard_target =~ List.map _ _ = []; exact rfl) | (first | exact congrArg (Value.int _) (usedV_0 l) | exact congrArg (Value.int _) (usedV_0 l).symm | exact covL_of rfl (flat_names _) | exact covL_still rfl (spots_still _) | first | exact covL_still rfl hvs | exact covL_still rfl (still_map (fun _ => rfl) _) | exact covL_still rfl (still_map ro_still _) | (apply covL_set <;> (try clear nw) <;> have nw := True.intro) | exact congrArg (Value.int _) (by (try dsimp only); omega)) | (exact congrArg (Value.int _) (by omega)) | (exact covL_flat (flat_map (fun _ => rfl) _)) | (exact covL_flat flat_nil) | (refine covP_all ?_; (try clear nw); have nw := True.intro) | (refine covL_each ?_; (try clear nw); have nw := True.intro) | (refine ⟨?_, ?_⟩ <;> (try clear nw) <;> have nw := True.intro) | (guard_hyp nw : True; ((conv => whnf) <;> clear nw)))); (first | done | fail)) : p := h
set_option maxRecDepth 100000 in
set_option maxHeartbeats 4000000 in
theorem on_l (k : Dk) (E : EL) (C : CM) (l : List Int) (cap : Nat) (fs : Fs) (hp : (filesOf E).Perm fs) (hs : Sorted fs) (hn : ∀ p ∈ fs, goodName p.1 = true) (hX : ∀ p ∈ fs, p.2.Ok) (hfew : fs.length ≤ 8) (hl : l.length ≤ 9223372036854775807) :
 CallOb Tryz.prog 32 [ptr 0, mslice 1 l.length cap] [(0, .own 75 (dkv 2 k)), (1, .lview (l.map iv)), (2, .mp (names E) (spots E)), (3, restI E C)] 4
  (fun v hh m => ∃ z : Dk × EL × CM, OnO l k E C fs z ∧ v = .tuple ([] : List Value).toArray ∧ hh = [(0, .own 75 (dkv 2 z.1)), (2, .mp (names z.2.1) (spots z.2.1)), (3, restI z.2.1 z.2.2)] ∧ m = 4) := by
 refine call_spec tabOk mixed Tryz.call32 Tryz.func32 rfl [] (OnO l k E C fs) (fun _ => .tuple ([] : List Value).toArray) (fun z => [(0, .own 75 (dkv 2 z.1)), (2, .mp (names z.2.1) (spots z.2.1)), (3, restI z.2.1 z.2.2)]) (fun _ => 4) ?_ ?_
 · exact (Nat.le_of_ble_eq_true rfl)
 obtain ⟨room, down, ops, life, at', kind, more⟩ := k
 (repeat' ((try (conv => whnf)); first | (guard_target =~ ∃ (_ : Value), ∃ (_ : HP), ∃ (_ : HP), _; refine ⟨_, _, _, rnDiskOn1, ?_⟩; (try (dsimp only [Nat.reduceAdd, bC, bL]))) | (guard_target =~ CallOb _ 78 _ _ _ _; refine call_q (names_l ⟨room, false, ops, life, at', kind, more⟩ E C fs hp hs hn omT) [(0, some 0), (1, some 2), (2, some 3)] cvDiskOn4 rfT rfT rfT (fun v h1 n1 hp' => ?_); obtain ⟨capn, hcapn, rfl, rfl, rfl⟩ := hp'; (try (dsimp only [Nat.reduceAdd, bC, bL]))) | (guard_hyp k : OS; obtain ⟨hq, hf⟩ := hk; rcases k with ⟨i, E1, C1, u, _ | ⟨q, x⟩⟩ <;> dsimp only at hq hf ⊢) | (guard_hyp x : Fx; obtain ⟨s, L, X, hi, hE, rfl, hok, hcp⟩ := hf; have mk1 : 1 = 1 := rfl) | (guard_target =~ LoopOb _ _ _ _ _ _ _ _; refine loop_sem tabOk mixed [] 16 (fun k : OS => [(0, ptr 0), (5, nextF), (23, mslice 6 fs.length capn), (24, iv (fs.length : Nat)), (25, iv (k.i : Nat))]) (fun k => k.h ⟨room, false, ops, life, at', kind, more⟩ l cap fs capn) (fun k => fs.length - k.i) (OnR l fs) (sem_start2 12 [(0, ptr 0), (5, nextF), (23, mslice 6 fs.length capn), (24, iv (fs.length : Nat)), (25, iv ((0 : Nat) : Int))] (onRaw ⟨room, false, ops, life, at', kind, more⟩ E C l cap (usedV l 0) fs capn) [(4, some 4), (5, some 5), (6, some 9)] (Sub.q cvDiskOn4 (by rfl) (by rfl)) (fun F B w0 m w H => let ⟨z, m', h1, h2, h3, h4⟩ := open_next (i := 0) H (OnQ.start hp); ⟨z, m', h1, h3, h4, by rw [h2]⟩)) (fun k hk => ?_)) | (guard_hyp mk1 : 1 = 1; with_reducible refine ⟨i, rfl, ?_⟩; have hlt : i < fs.length := (List.getElem?_eq_some_iff.1 hi).1; refine ⟨by omega, ?_⟩) | (guard_target =~ LookOb _ _ _ _ _; refine look_foc (hq.nd hs) hE ?_) | (guard_target =~ CallOb _ 79 _ _ _ _; have hXX := hX _ (List.mem_of_getElem? hi); have hqu := hq.used; refine call_q (fated_l (fxOf L X) X (E1.eraseIdx q) C1 l cap u hok hcp hXX hl omT) [(0, some 12), (1, some 13), (2, some 14), (3, some 15), (4, some 4), (5, some 5), (6, some 1), (7, some 3)] cvDiskOn4 rfT rfT rfT (fun v h1 n1 hp' => ?_); obtain ⟨⟨y, C2, u2⟩, ⟨hy, hu2⟩, rfl, rfl, rfl⟩ := hp'; dsimp only at hy hu2; (try (dsimp only [Nat.reduceAdd, bC, bL]))) | (guard_target =~ ∃ ks' vs', DelOb _ _ _ ks' vs' ∧ _; refine ⟨_, _, del_foc (hq.nd hs) hE, ?_⟩) | (with_reducible first | refine chk_in (Nat.ble_eq_true_of_le omT) ?_ | (refine ifB_in ?_ ?_ <;> intro hb <;> (try simp only [bN1, bN2, bN3, bN4, bN5, bN6, bN7, bN8, bN9, bN0] at hb) <;> (try (exfalso; omega))) | refine ⟨_, w64b _, ?_⟩ | refine ⟨_, w64 omT omT, ?_⟩ | refine ⟨_, wu64 omT omT, ?_⟩ | refine ⟨_, wu8 omT omT, ?_⟩ | refine ⟨_, w64 szT szT, ?_⟩ | refine ⟨_, rfl, ?_⟩ | refine ⟨rfl, ?_⟩) | intro cap | (with_reducible refine ⟨trivial, ?_⟩) | (guard_target =~ (planChk _ _ = true) ∧ _; refine ⟨by kernel_rfl, ?_⟩) | (guard_target =~ (_ ∧ _) ∧ _; refine ⟨by ((repeat (first | exact trivial | refine ⟨rfl, ?_⟩)); (first | done | fail)), ?_⟩) | refine ⟨by omega, ?_⟩ | refine ⟨szT, ?_⟩ | refine ⟨0, rfl, ?_⟩ | refine ⟨1, rfl, ?_⟩ | refine ⟨2, rfl, ?_⟩ | refine ⟨3, rfl, ?_⟩ | refine ⟨4, rfl, ?_⟩ | refine ⟨5, rfl, ?_⟩ | (refine cell_at1 (by assumption) ?_) | (refine cell_in1 omT (fun x hx => ?_)) | fail)) <;> (try (conv => whnf))
 all_goals first
  | (exfalso; have := (List.getElem?_eq_some_iff.1 hi).1; omega)
  | ((refine Ends.go (((⟨room, down, ops, life, at', kind, more⟩, E, C) : Dk × EL × CM)) ?_ [] (Fit.q cvDiskOn4 (by rfl) (by rfl))); exact .inl ⟨by assumption, rfl⟩)
  | ((refine Ends.go (((⟨room, false, ops, life, at', kind, more⟩, E1, C1) : Dk × EL × CM)) ?_ [] (Fit.q cvDiskOn4 (by rfl) (by rfl))); exact .inr ⟨by assumption, rfl, hq.done (Nat.le_of_eq hf.symm)⟩)
  | (subst hu2; refine sem_round2 12 [(0, ptr 0), (5, nextF), (23, mslice 6 fs.length capn), (24, iv (fs.length : Nat)), (25, iv ((i + 1 : Nat) : Int))] (onRaw ⟨room, false, ops, life, at', kind, more⟩ (E1.eraseIdx q) C2 l cap (usedV l (fatedF l X u).2) fs capn) [(4, some 4), (5, some 5), (6, some 6)] (Sub.q cvDiskOn4 (by rfl) (by rfl)) (fun F B w0 m w H => ?_)
     obtain ⟨z, m', h1, h2, h3, h4⟩ := open_next (i := i + 1) H (hq.gone hi hE hXX (now_nil hy (by assumption)) ((fated_sure l X u).symm.trans (hy.sure.symm.trans (by assumption))))
     exact ⟨z, m', h1, by dsimp only; omega, h3, h4, by rw [h2]⟩)
  | (subst hu2; refine sem_round2 12 [(0, ptr 0), (5, nextF), (23, mslice 6 fs.length capn), (24, iv (fs.length : Nat)), (25, iv ((i + 1 : Nat) : Int))] [(0, .own 75 (dkv 2 ⟨room, false, ops, life, at', kind, more⟩)), (1, .lview (l.map iv)), (2, .mp (names E1) ((spots E1).set q (ptr 8))), (3, restI (E1.eraseIdx q) C2), (4, .own 46 [mslice 1 l.length cap]), (5, .own 3 [iv (usedV l (fatedF l X u).2)]), (6, .lst 9 1 capn (nmL fs)), (8, fileI 8 ⟨y.pn, y.ps, y.ws, true, y.ka, y.kb, y.kc⟩), (9, nowI ⟨y.pn, y.ps, y.ws, true, y.ka, y.kb, y.kc⟩), (10, safeI ⟨y.pn, y.ps, y.ws, true, y.ka, y.kb, y.kc⟩), (11, waitI ⟨y.pn, y.ps, y.ws, true, y.ka, y.kb, y.kc⟩)] [(4, some 4), (5, some 5), (6, some 6), (8, some 12), (9, some 24), (10, some 14), (11, some 25)] (Sub.q cvDiskOn4 (by rfl) (by rfl)) (fun F B w0 m w H => ?_)
     obtain ⟨L', H2⟩ := close_next H hE (ok_sure hy)
     obtain ⟨z, m', h1, h2, h3, h4⟩ := open_next (i := i + 1) H2 (hq.kept hi hE hXX (by first | (rintro ⟨h1, h2⟩; exact absurd (((fated_sure l X u).symm.trans (hy.sure.symm.trans ‹y.sure = true›)) : X.sure = true) (by rw [h2]; decide)) | (rintro ⟨h1, h2⟩; exact now_some hy (by assumption) h1)) L')
     exact ⟨z, m', h1, by dsimp only; omega, h3, h4, by rw [h2]⟩)
  | trace_state
theorem on_c (S : Nat → Prop) (D : DM) (hD : D.Ok) (l : List Int) (cap : Nat) (hl : l.length ≤ 9223372036854775807) :
 CallOb Tryz.prog 32 [ptr 0, mslice 1 l.length cap] [(0, diskI S D), (1, .lview (l.map iv))] 2 (AbsP (fun _ : Unit => .tuple ([] : List Value).toArray) (fun _ D' => D' = onD D l)) := by
 have step : ∀ E C, (filesOf E).Perm D.fs → CallOb Tryz.prog 32 [ptr 0, mslice 1 l.length cap] [(0, .own 75 (dkv 2 D.k)), (1, .lview (l.map iv)), (2, .mp (names E) (spots E)), (3, restI E C)] 4 (AbsP (fun _ : Unit => .tuple ([] : List Value).toArray) (fun _ D' => D' = onD D l)) := fun E C hp => by
  refine (on_l D.k E C l cap D.fs hp hD.fs.sorted hD.fs.names (fun p h => hD.fs.files p h) hD.fs.few hl).conv ?_
  rintro v h1 n1 ⟨⟨k', E', C'⟩, hz, rfl, rfl, rfl⟩ F B w0 m w c H hv
  dsimp only at hz H
  have done : ∀ fs', (filesOf E').Perm fs' → (⟨k', fs'⟩ : DM) = onD D l → ∃ m' v' h2 n2, m.le m' ∧ VR m' v' c ∧ HRel F B w0 m' h2 n2 w ∧ AbsP (fun _ : Unit => .tuple ([] : List Value).toArray) (fun _ D' => D' = onD D l) v' h2 n2 := fun fs' hp' hr => by
   obtain ⟨S, H'⟩ := close_disk H (i := 0) (j := 2) (r := 3) rfl rfl rfl (by simp) (List.Perm.refl _) hp'
   have H' : HRel F B w0 m [(0, diskI S ⟨k', fs'⟩)] 4 w := H'
   exact ⟨m, _, _, 20, BM.le_refl m, hv, H'.up (BM.le_refl m) H'.fn (fun i g s x => Nat.lt_of_lt_of_le (H'.fresh i g s x) (by decide)), (), _, S, hr, rfl, rfl, rfl⟩
  rcases hz with ⟨h1, h2⟩ | ⟨h1, h2, h3⟩
  · cases h2
    exact done D.fs hp (by unfold onD; rw [if_neg (by rw [h1]; decide)])
  · dsimp only at h2 h3
    subst h2
    exact done _ h3 (by unfold onD; rw [if_pos h1])
 refine CallOb.pre Tryz.call32 fun F B w0 m w cs H hcs => ?_
 match cs, hcs with
 | c :: cs, ⟨h0, hr⟩ =>
  obtain ⟨b, hb, rfl⟩ := VR.ptr h0
  obtain ⟨g, s, hg, hs, rfl⟩ := hb.old
  obtain ⟨g', s', hg', ok⟩ := H.dom 0 _ (rfl : lkH [(0, diskI S D), (1, .lview (l.map iv))] 0 = some (diskI S D))
  obtain ⟨rfl, rfl⟩ := H.fn _ _ _ _ _ hg hg'
  rcases ok.1 with ⟨x, _⟩ | rfl
  · exact absurd x hs
  obtain ⟨E, C, m', hle, hp, H'⟩ := open_disk H (i := 0) (S := S) (D := D) rfl hg
  refine ⟨m', [ptr 0, mslice 1 l.length cap], [(0, .own 75 (dkv 2 D.k)), (1, .lview (l.map iv)), (2, .mp (names E) (spots E)), (3, restI E C)], 4, hle, H'.sub_of fun i it e => ?_, ⟨h0.mono hle, LR.mono (fun _ _ x => x.mono hle) hr⟩, step E C hp⟩
  have := lkH_mem e
  simp only [List.mem_cons, Prod.mk.injEq, List.not_mem_nil, or_false] at this
  rcases this with ⟨rfl, rfl⟩ | ⟨rfl, rfl⟩ | ⟨rfl, rfl⟩ | ⟨rfl, rfl⟩ <;> rfl
end Go.Proofs.YtcojbjakopkfbaaGreat
