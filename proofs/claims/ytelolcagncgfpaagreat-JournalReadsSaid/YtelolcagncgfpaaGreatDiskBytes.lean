/- The disk: all bytes of a file; what only asks. -/
import Derived.Test.YtelolcagncgfpaaGreatDiskTotal
import Derived.Test.YtelolcagncgfpaaGreatBldAll
namespace Go.Proofs.YtelolcagncgfpaaGreat
open Go.RowKit
set_option linter.unusedSimpArgs false
set_option linter.unusedVariables false
structure BS where
 u : Bool
 d : List UInt8
 bc : Nat
 i : Nat
def bytF (l : List Cv) (i : Nat) : List UInt8 := (l.take i).flatMap cellB
theorem bytF_0 (l : List Cv) : [] = bytF l 0 := rfl
theorem bytF_next {l : List Cv} {i : Nat} {c : Cv} (hc : l[i]? = some c) {d x : List UInt8} (hd : d = bytF l i) (hx : x = cellB c) : d ++ x = bytF l (i + 1) := by
 subst hd hx
 unfold bytF
 rw [List.take_add_one, hc, List.flatMap_append]
 simp
theorem bytF_len {l : List Cv} (h : ∀ c ∈ l, OkC c) (i : Nat) : (bytF l i).length ≤ 256 * i := by
 unfold bytF
 have key : ∀ m : List Cv, (∀ c ∈ m, OkC c) → (m.flatMap cellB).length = 256 * m.length := by
  intro m
  induction m with
  | nil => intro _; rfl
  | cons c m ih =>
   intro hm
   rw [List.flatMap_cons, List.length_append, ih fun c hc => hm c (List.mem_cons_of_mem _ hc), List.length_cons]
   have : (cellB c).length = 256 := by
    have := hm c List.mem_cons_self
    cases c with
    | none => exact List.length_replicate
    | some d => show (bytesOf d).length = 256; rw [bytesOf_length]; exact this
   omega
 rw [key _ fun c hc => h c (List.mem_of_mem_take hc), List.length_take]
 have : min i l.length ≤ i := Nat.min_le_left _ _
 omega
theorem bytF_ne {l : List Cv} (h : ∀ c ∈ l, OkC c) {i : Nat} (h0 : 0 < i) (hi : i ≤ l.length) : bytF l i ≠ [] := by
 cases l with
 | nil => simp at hi; omega
 | cons c l =>
  obtain ⟨i, rfl⟩ : ∃ j, i = j + 1 := ⟨i - 1, by omega⟩
  intro hn
  unfold bytF at hn
  rw [List.take_succ_cons, List.flatMap_cons, List.append_eq_nil_iff] at hn
  have : (cellB c).length = 256 := by
   have := h c List.mem_cons_self
   cases c with
   | none => exact List.length_replicate
   | some d => show (bytesOf d).length = 256; rw [bytesOf_length]; exact this
  rw [hn.1] at this
  cases this
theorem bytF_all {l : List Cv} {i : Nat} (h : l.length ≤ i) : bytF l i = l.flatMap cellB := by
 unfold bytF; rw [List.take_of_length_le h]
theorem cell_torn {c : Cv} (h : c.isNone = true) : (strOf (List.replicate (256 : Int).toNat 0)).size = 256 ∧ bytesOf (strOf (List.replicate (256 : Int).toNat 0)) ++ bytesOf (c.getD ⟨#[]⟩) = cellB c ∧ (c.getD ⟨#[]⟩).size = 0 := by
 cases c with
 | none => exact ⟨by rw [strOf_size, List.length_replicate]; rfl, by rw [bytesOf_strOf]; exact (List.append_nil _), rfl⟩
 | some d => cases h
theorem cell_good {c : Cv} (h : c.isNone = false) (hc : OkC c) : bytesOf (c.getD ⟨#[]⟩) = cellB c ∧ (c.getD ⟨#[]⟩).size = 256 := by
 cases c with
 | none => cases h
 | some d => exact ⟨rfl, hc⟩
theorem bytes_0 : strOf (((none : Option Fl).getD fl0).now.flatMap cellB) = ⟨#[]⟩ := rfl
attribute [local irreducible] bytesOf strOf strEq strLt sfrom begS cellB bytF
theorem cvDiskBytes1 {p : Prop} (h : p := by have nw := True.intro; (repeat' (first | exact True.intro | (with_reducible exact rfl) | (with_reducible exact AbsLe.refl) | (guard_target =~ @Eq Nat _ _; first | exact rfl | omega) | (guard_target =~ List.map _ _ = []; exact rfl) | (first | exact covL_still rfl hvs | exact covL_still rfl (still_map (fun _ => rfl) _) | exact covL_still rfl (still_map ro_still _) | (apply covL_set <;> (try clear nw) <;> have nw := True.intro) | exact congrArg (Value.int _) (by (try dsimp only); omega)) | (exact congrArg (Value.int _) (by omega)) | (exact covL_flat (flat_map (fun _ => rfl) _)) | (exact covL_flat flat_nil) | (refine covP_all ?_; (try clear nw); have nw := True.intro) | (refine covL_each ?_; (try clear nw); have nw := True.intro) | (refine ⟨?_, ?_⟩ <;> (try clear nw) <;> have nw := True.intro) | (guard_hyp nw : True; ((conv => whnf) <;> clear nw)))); (first | done | fail)) : p := h
theorem rnDiskBytes2 {p : Prop} (h : p := by refine ⟨?_, ?_, ?_⟩; (first | apply rR_tuple | apply rR_one rfl | exact rfl); all_goals (repeat' (first | (with_reducible (first | exact relH_nil | apply rn_lst | apply rn_own | apply rn_mp | apply rn_row | apply rn_abs | exact wo_nil)) | apply wo_keep rfl | apply wo_drop rfl | exact relH_nil | exact r1_flat rfl | exact r0_flat rfl | exact rl_nil | exact wo_nil | exact bk_old rfl | exact bk_new rfl | exact bk_nil rfl | apply rl_cons | (first | exact relL_still hvs | exact relL_still (still_map (fun _ => rfl) _) | exact relL_still (still_map ro_still _) | exact relL_flat (flat_map (fun _ => rfl) _) | apply relL_set) | exact relL_flat (flat_map (fun _ => rfl) _) | exact relL_flat flat_nil | apply relL_to | apply rn_lst | apply rn_own | apply rn_mp | apply rn_row | apply relH_view rfl | apply relH_lview rfl | apply relH_fact rfl | exact r1_rig | exact r0_rig | exact r1_rigs | exact r0_rigs | apply wo_keep rfl | apply wo_drop rfl | apply r1_agg | apply rn_ptr | apply rn_slice | apply rn_slice0 | apply rn_iface | apply rn_map | apply rn_ifacem | apply r0_map | apply r0_ifacem | apply r0_ptr | apply r0_slice | apply r0_slice0 | apply r0_iface)); (first | done | fail)) : p := h
set_option maxRecDepth 100000 in
set_option maxHeartbeats 4000000 in
theorem bytes_f (k0 : Dk) (s : ByteArray) (E : EL) (C : CM) (q : Nat) (L : LF) (X : Fl) (hn : (E.map fun e => e.1).Nodup) (hq : E[q]? = some (s, L, X)) (hok : FxOk C (fxOf L X) X) (hX : X.Ok) :
 CallOb Tryz.prog 16 [ptr 0, .string s] (focH k0 E q C (fxOf L X)) 7 (fun v hh m => ∃ z : ByteArray, z = strOf (X.now.flatMap cellB) ∧ v = .string z ∧ hh = focH k0 E q C (fxOf L X) ∧ m = 7) := by
 have hvs := spots_still E
 have e1 : L.pn.length = X.now.length := hok.c1.len
 have e0 := hX.len
 refine call_spec tabOk mixed Tryz.call16 Tryz.func16 rfl [] (fun z : ByteArray => z = strOf (X.now.flatMap cellB)) (fun z => .string z) (fun _ => focH k0 E q C (fxOf L X)) (fun _ => 7) ?_ ?_
 · exact (Nat.le_of_ble_eq_true rfl)
 (repeat' ((try (conv => whnf)); first | (guard_target =~ ∃ (_ : Value), ∃ (_ : HP), ∃ (_ : HP), _; refine ⟨_, _, _, rnDiskBytes2, ?_⟩; (try (dsimp only [Nat.reduceAdd, bC, bL]))) | (guard_target =~ CallOb _ 18 _ _ _ _; refine call_q (size_f k0 s E C q L X hn hq) [(0, some 0), (1, some 1), (2, some 2), (3, some 3), (4, some 4), (5, some 5), (6, some 6)] cvDiskBytes1 rfT rfT rfT (fun v h1 n1 hp => ?_); obtain ⟨sz, hsz, rfl, rfl, rfl⟩ := hp; (try (dsimp only [Nat.reduceAdd, bC, bL]))) | (guard_target =~ LookOb _ _ _ _ _; refine look_foc hn hq ?_) | (guard_target =~ LoopOb _ _ _ _ _ _ _ _; refine loop_rule tabOk mixed [] 9 (fun k => [(5, ptr 7), (20, mslice 4 L.pn.length L.a.k), (21, iv (L.pn.length : Nat)), (22, iv (BS.i k : Nat))]) (fun k => focH k0 E q C (fxOf L X) ++ [(7, .own 96 [bif BS.u k then ptrB 7 else .pointer none, bif BS.u k then mslice 8 (BS.d k).length (BS.bc k) else .slice none 0 0]), (8, .lst 5 1 (BS.bc k) ((BS.d k).map byteV'))]) (fun k => L.pn.length - BS.i k) (fun k => BS.i k ≤ L.pn.length ∧ BS.d k = bytF X.now (BS.i k) ∧ (BS.u k = true → 0 < BS.i k) ∧ (BS.u k = false → BS.d k = [])) (⟨false, [], 0, 0⟩) (⟨Nat.zero_le _, bytF_0 _, fun h => Bool.noConfusion h, fun _ => rfl⟩) ⟨[(7, some _), (8, none)], Sub.q cvDiskBytes1 (by rfl) (by rfl)⟩ (fun k hk => ?_)) | (guard_hyp k : BS; rcases k with ⟨_ | _, d, bc, i⟩ <;> (dsimp only [cond] at hk ⊢; have hdl := bytF_len hX.now i; rw [← hk.2.1] at hdl)) | (guard_target =~ ∃ (_ : Nat), _ ∧ _; obtain ⟨p, c, hp1, hc1, hpc⟩ := pn_get hok (i := i) (by show i < L.pn.length; omega); have hcc := hX.now c (List.mem_of_getElem? hc1); refine ⟨i, by omega, by omega, ?_⟩) | (guard_target =~ ∃ _, RigLd _ _ _ _ _ _ ∧ _; first | refine ⟨_, rig_torn (i := 2) rfl hpc, ?_⟩ | refine ⟨_, rig_data (i := 2) rfl hpc, ?_⟩) | (have ht := cell_torn (c := c) (by assumption); (guard_target =~ CallOb _ 30 _ _ _ _; (with_reducible refine call_pure Tryz.call30 (c_noughts 256 omT omT) ?_ ?_ ?_); exact rfl; exact rfl)) | ((guard_target =~ CallOb _ 50 _ _ _ _; refine call_q (wstr_f [] 0 (strOf (List.replicate (256 : Int).toNat 0)) (by rw [ht.1]; decide)) [(0, some _), (1, none)] cvDiskBytes1 rfT rfT rfT (fun v h1 n1 hp => ?_); obtain ⟨wc, _, rfl, rfl, rfl⟩ := hp); (try (dsimp only [Nat.reduceAdd, bC, bL]))) | ((guard_target =~ CallOb _ 50 _ _ _ _; refine call_q (wstr_u d bc (strOf (List.replicate (256 : Int).toNat 0)) (by rw [ht.1]; omega)) [(0, some _), (1, some _)] cvDiskBytes1 rfT rfT rfT (fun v h1 n1 hp => ?_); obtain ⟨wc, _, rfl, rfl, rfl⟩ := hp); (try (dsimp only [Nat.reduceAdd, bC, bL]))) | ((guard_target =~ CallOb _ 50 _ _ _ _; refine call_q (wstr_u ([] ++ bytesOf (strOf (List.replicate (256 : Int).toNat 0))) wc (c.getD ⟨#[]⟩) (by rw [List.length_append, bytesOf_length, ht.1, ht.2.2]; decide)) [(0, some _), (1, some _)] cvDiskBytes1 rfT rfT rfT (fun v h1 n1 hp => ?_); obtain ⟨wd, _, rfl, rfl, rfl⟩ := hp); (try (dsimp only [Nat.reduceAdd, bC, bL]))) | ((guard_target =~ CallOb _ 50 _ _ _ _; refine call_q (wstr_u (d ++ bytesOf (strOf (List.replicate (256 : Int).toNat 0))) wc (c.getD ⟨#[]⟩) (by rw [List.length_append, bytesOf_length, ht.1, ht.2.2]; omega)) [(0, some _), (1, some _)] cvDiskBytes1 rfT rfT rfT (fun v h1 n1 hp => ?_); obtain ⟨wd, _, rfl, rfl, rfl⟩ := hp); (try (dsimp only [Nat.reduceAdd, bC, bL]))) | (have hg := cell_good (c := c) (by assumption) hcc; (guard_target =~ CallOb _ 50 _ _ _ _; refine call_q (wstr_f [] 0 (c.getD ⟨#[]⟩) (by rw [hg.2]; decide)) [(0, some _), (1, none)] cvDiskBytes1 rfT rfT rfT (fun v h1 n1 hp => ?_); obtain ⟨wc, _, rfl, rfl, rfl⟩ := hp); (try (dsimp only [Nat.reduceAdd, bC, bL]))) | (have hg := cell_good (c := c) (by assumption) hcc; (guard_target =~ CallOb _ 50 _ _ _ _; refine call_q (wstr_u d bc (c.getD ⟨#[]⟩) (by rw [hg.2]; omega)) [(0, some _), (1, some _)] cvDiskBytes1 rfT rfT rfT (fun v h1 n1 hp => ?_); obtain ⟨wc, _, rfl, rfl, rfl⟩ := hp); (try (dsimp only [Nat.reduceAdd, bC, bL]))) | ((guard_target =~ CallOb _ 51 _ _ _ _; refine call_q (bstr_n (.pointer none)) [(0, some _)] cvDiskBytes1 rfT rfT rfT (fun v h1 n1 hp => ?_); obtain ⟨so, hso, rfl, rfl, rfl⟩ := hp); (try (dsimp only [Nat.reduceAdd, bC, bL]))) | ((guard_target =~ CallOb _ 51 _ _ _ _; refine call_q (bstr_x (ptrB 0) d bc (by rw [hk.2.1]; exact bytF_ne hX.now (hk.2.2.1 rfl) omT)) [(0, some _), (1, some _)] cvDiskBytes1 rfT rfT rfT (fun v h1 n1 hp => ?_); obtain ⟨so, hso, rfl, rfl, rfl⟩ := hp); (try (dsimp only [Nat.reduceAdd, bC, bL]))) | (with_reducible first | refine chk_in (Nat.ble_eq_true_of_le omT) ?_ | (refine ifB_in ?_ ?_ <;> intro hb <;> (try simp only [bN1, bN2, bN3, bN4, bN5, bN6, bN7, bN8, bN9, bN0] at hb) <;> (try (exfalso; omega))) | refine ⟨_, w64b _, ?_⟩ | refine ⟨_, w64 omT omT, ?_⟩ | refine ⟨_, wu64 omT omT, ?_⟩ | refine ⟨_, wu8 omT omT, ?_⟩ | refine ⟨_, w64 szT szT, ?_⟩ | refine ⟨_, rfl, ?_⟩ | refine ⟨rfl, ?_⟩) | intro cap | (with_reducible refine ⟨trivial, ?_⟩) | (guard_target =~ (planChk _ _ = true) ∧ _; refine ⟨by kernel_rfl, ?_⟩) | (guard_target =~ (_ ∧ _) ∧ _; refine ⟨by ((repeat (first | exact trivial | refine ⟨rfl, ?_⟩)); (first | done | fail)), ?_⟩) | refine ⟨by omega, ?_⟩ | refine ⟨szT, ?_⟩ | refine ⟨0, rfl, ?_⟩ | refine ⟨1, rfl, ?_⟩ | refine ⟨2, rfl, ?_⟩ | refine ⟨3, rfl, ?_⟩ | refine ⟨4, rfl, ?_⟩ | refine ⟨5, rfl, ?_⟩ | (refine cell_at1 (by assumption) ?_) | (refine cell_in1 omT (fun x hx => ?_)) | fail)) <;> (try (conv => whnf))
 all_goals first
  | (exfalso; omega)
  | ((refine Again.go ((⟨true, [] ++ bytesOf (strOf (List.replicate (256 : Int).toNat 0)) ++ bytesOf (c.getD ⟨#[]⟩), _, i + 1⟩ : BS)) ?_ (by (try dsimp only); omega) [(7, some _), (8, some _)] (Sub.q cvDiskBytes1 (by rfl) (by rfl))); exact ⟨by dsimp only; omega, (List.append_assoc _ _ _).trans (bytF_next hc1 ((hk.2.2.2 rfl).symm.trans hk.2.1) ht.2.1), fun _ => Nat.succ_pos _, fun h => Bool.noConfusion h⟩)
  | ((refine Again.go ((⟨true, d ++ bytesOf (strOf (List.replicate (256 : Int).toNat 0)) ++ bytesOf (c.getD ⟨#[]⟩), _, i + 1⟩ : BS)) ?_ (by (try dsimp only); omega) [(7, some _), (8, some _)] (Sub.q cvDiskBytes1 (by rfl) (by rfl))); exact ⟨by dsimp only; omega, (List.append_assoc _ _ _).trans (bytF_next hc1 hk.2.1 ht.2.1), fun _ => Nat.succ_pos _, fun h => Bool.noConfusion h⟩)
  | ((refine Again.go ((⟨true, [] ++ bytesOf (c.getD ⟨#[]⟩), _, i + 1⟩ : BS)) ?_ (by (try dsimp only); omega) [(7, some _), (8, some _)] (Sub.q cvDiskBytes1 (by rfl) (by rfl))); exact ⟨by dsimp only; omega, bytF_next hc1 ((hk.2.2.2 rfl).symm.trans hk.2.1) hg.1, fun _ => Nat.succ_pos _, fun h => Bool.noConfusion h⟩)
  | ((refine Again.go ((⟨true, d ++ bytesOf (c.getD ⟨#[]⟩), _, i + 1⟩ : BS)) ?_ (by (try dsimp only); omega) [(7, some _), (8, some _)] (Sub.q cvDiskBytes1 (by rfl) (by rfl))); exact ⟨by dsimp only; omega, bytF_next hc1 hk.2.1 hg.1, fun _ => Nat.succ_pos _, fun h => Bool.noConfusion h⟩)
  | ((refine Ends.go (so) ?_ [] (Fit.q cvDiskBytes1 (by rfl) (by rfl))); rw [hso]; first | rw [hk.2.1, bytF_all (by omega)] | (rw [← hk.2.2.2 rfl, hk.2.1, bytF_all (by omega)]))
  | trace_state
set_option maxRecDepth 100000 in
theorem bytes_n (k : Dk) (s : ByteArray) (E : EL) (C : CM) (hN : ∀ e ∈ E, e.1 ≠ s) :
 CallOb Tryz.prog 16 [ptr 0, .string s] (rawH k E C) 3 (LitP E C (fun a : ByteArray => .string a) (fun a k' o => o = none ∧ k' = k ∧ a = ⟨#[]⟩)) := by
 have hvs := spots_still E
 refine (call_spec tabOk mixed Tryz.call16 Tryz.func16 rfl [] (fun z : ByteArray => z = ⟨#[]⟩) (fun z => .string z) (fun _ => rawH k E C) (fun _ => 3) ?_ ?_).mono (fun v h n ⟨z, hz, e1, e2, e3⟩ => ⟨z, k, none, ⟨rfl, rfl, hz⟩, e1, e2, e3⟩)
 · exact (Nat.le_of_ble_eq_true rfl)
 (repeat' ((try (conv => whnf)); first | (guard_target =~ ∃ (_ : Value), ∃ (_ : HP), ∃ (_ : HP), _; refine ⟨_, _, _, rnDiskBytes2, ?_⟩; (try (dsimp only [Nat.reduceAdd, bC, bL]))) | (guard_target =~ CallOb _ 18 _ _ _ _; refine call_q (size_n k s E C hN) [(0, some 0), (1, some 1), (2, some 2)] cvDiskBytes1 rfT rfT rfT (fun v h1 n1 hp => ?_); obtain ⟨sz, k', o, ⟨rfl, rfl, hsz⟩, rfl, rfl, rfl⟩ := hp; dsimp only [shH, shN]; (try (dsimp only [Nat.reduceAdd, bC, bL]))) | (with_reducible first | refine chk_in (Nat.ble_eq_true_of_le omT) ?_ | (refine ifB_in ?_ ?_ <;> intro hb <;> (try simp only [bN1, bN2, bN3, bN4, bN5, bN6, bN7, bN8, bN9, bN0] at hb) <;> (try (exfalso; omega))) | refine ⟨_, w64b _, ?_⟩ | refine ⟨_, w64 omT omT, ?_⟩ | refine ⟨_, wu64 omT omT, ?_⟩ | refine ⟨_, wu8 omT omT, ?_⟩ | refine ⟨_, w64 szT szT, ?_⟩ | refine ⟨_, rfl, ?_⟩ | refine ⟨rfl, ?_⟩) | intro cap | (with_reducible refine ⟨trivial, ?_⟩) | (guard_target =~ (planChk _ _ = true) ∧ _; refine ⟨by kernel_rfl, ?_⟩) | (guard_target =~ (_ ∧ _) ∧ _; refine ⟨by ((repeat (first | exact trivial | refine ⟨rfl, ?_⟩)); (first | done | fail)), ?_⟩) | refine ⟨by omega, ?_⟩ | refine ⟨szT, ?_⟩ | refine ⟨0, rfl, ?_⟩ | refine ⟨1, rfl, ?_⟩ | refine ⟨2, rfl, ?_⟩ | refine ⟨3, rfl, ?_⟩ | refine ⟨4, rfl, ?_⟩ | refine ⟨5, rfl, ?_⟩ | (refine cell_at1 (by assumption) ?_) | (refine cell_in1 omT (fun x hx => ?_)) | fail)) <;> (try (conv => whnf))
 all_goals first
  | (exfalso; omega)
  | ((refine Ends.go ((⟨#[]⟩ : ByteArray)) ?_ [] (Fit.q cvDiskBytes1 (by rfl) (by rfl))); rfl)
  | trace_state
theorem bytes_c (S : Nat → Prop) (D : DM) (hD : D.Ok) (s : ByteArray) : CallOb Tryz.prog 16 [ptr 0, .string s] [(0, diskI S D)] 1 (AbsP (fun a : ByteArray => .string a) (fun a D' => D' = D ∧ a = bytesD D s)) := by
 refine of_raw Tryz.call16 fun E C hp => ?_
 rcases Classical.em (∀ e ∈ E, e.1 ≠ s) with hN | hN
 · exact lit_abs (fun _ => rfl) hD.fs.sorted hp (bytes_n D.k s E C hN) fun _ k o ⟨ho, hk, ha⟩ => ⟨D.fs, by subst ho; rfl, by rw [hk], by rw [ha]; unfold bytesD; rw [find_no hp hN]; exact bytes_0.symm⟩
 · obtain ⟨e, he, hs⟩ : ∃ e ∈ E, e.1 = s := Classical.byContradiction fun h => hN fun e he hs => h ⟨e, he, hs⟩
   obtain ⟨q, hq⟩ := List.mem_iff_getElem?.1 he
   obtain ⟨t, L, X⟩ := e
   dsimp only at hs
   subst hs
   have hx := find_perm hp hD.fs.sorted hq
   have hX : X.Ok := ok_files hp hD.fs _ he
   refine lit_abs (vT := fun a : ByteArray => .string a) (R := fun a k' o => k' = D.k ∧ a = strOf (X.now.flatMap cellB) ∧ o = some (q, fxOf L X, X) ∧ FxOk C (fxOf L X) X) (fun _ => rfl) hD.fs.sorted hp (of_foc Tryz.call16 hq fun hok _ => (bytes_f D.k t E C q L X (names_nodup hp hD.fs.sorted) hq hok hX).mono fun v h n ⟨z, hz, h1, h2, h3⟩ => ⟨z, D.k, some (q, fxOf L X, X), ⟨rfl, hz, rfl, hok⟩, h1, h2, h3⟩) ?_
   rintro a k o ⟨rfl, rfl, rfl, hok⟩
   refine ⟨_, ⟨t, L, X, hq, hok, rfl⟩, by rw [put_same hD.fs.sorted hx], ?_⟩
   unfold bytesD
   rw [hx]
   rfl
end Go.Proofs.YtelolcagncgfpaaGreat
namespace Go.Proofs.YtelolcagncgfpaaGreat
open Go.RowKit
set_option linter.unusedSimpArgs false
set_option linter.unusedVariables false
section
variable (S : Nat → Prop) (D : DM) (hD : D.Ok)
include hD
theorem size_k (s : ByteArray) : CallOb Tryz.prog 18 [ptr 0, .string s] [(0, diskI S D)] 1 (fun v h m => ∃ (a : Int) (S' : Nat → Prop), a = sizeD D s ∧ v = iv a ∧ h = [(0, diskI S' D)] ∧ m = 20) :=
 (size_c S D hD s).mono fun v h m ⟨a, D', S', hr, h1, h2, h3⟩ => by
  obtain ⟨rfl, rfl⟩ := hr
  exact ⟨_, S', rfl, h1, h2, h3⟩
theorem bytes_k (s : ByteArray) : CallOb Tryz.prog 16 [ptr 0, .string s] [(0, diskI S D)] 1 (fun v h m => ∃ (a : ByteArray) (S' : Nat → Prop), a = bytesD D s ∧ v = .string a ∧ h = [(0, diskI S' D)] ∧ m = 20) :=
 (bytes_c S D hD s).mono fun v h m ⟨a, D', S', hr, h1, h2, h3⟩ => by
  obtain ⟨rfl, rfl⟩ := hr
  exact ⟨_, S', rfl, h1, h2, h3⟩
end
end Go.Proofs.YtelolcagncgfpaaGreat
