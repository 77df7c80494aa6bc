/- The disk: what comes ahead of an operation; the file that it needs; calls told of the disk as a whole. -/
import Derived.Test.YtelolcagncgfpaaGreatDiskLay
import Derived.Test.YtelolcagncgfpaaGreatCall
import Derived.Test.YtelolcagncgfpaaGreatDiskFs
namespace Go.Proofs.YtelolcagncgfpaaGreat
open Go.RowKit
set_option linter.unusedSimpArgs false
set_option linter.unusedVariables false
attribute [local irreducible] bytesOf strOf strEq strLt sfrom
abbrev dkG (k : Dk) (ks vs : List Value) : HP := [(0, .own 58 (dkv 1 k)), (1, .mp ks vs)]
theorem goodName_no {s : ByteArray} (h : strEq s ⟨#[]⟩ = true) : goodName s = false := by unfold goodName; rw [h]; rfl
theorem goodName_yes {s : ByteArray} (h : strEq s ⟨#[]⟩ = false) : goodName s = decide ((s.size : Int) ≤ 16) := by
 unfold goodName; rw [h, Bool.not_false, Bool.true_and]
 exact Bool.eq_iff_iff.2 (by rw [decide_eq_true_iff, decide_eq_true_iff]; omega)
theorem rnDiskAbs1 {p : Prop} (h : p := by refine ⟨?_, ?_, ?_⟩; (first | apply rR_tuple | apply rR_one rfl | exact rfl); all_goals (repeat' (first | (with_reducible (first | exact relH_nil | apply rn_lst | apply rn_own | apply rn_mp | apply rn_row | apply rn_abs | exact wo_nil)) | apply wo_keep rfl | apply wo_drop rfl | exact relH_nil | exact r1_flat rfl | exact r0_flat rfl | exact rl_nil | exact wo_nil | exact bk_old rfl | exact bk_new rfl | exact bk_nil rfl | apply rl_cons | (exact relL_still hvs) | exact relL_flat (flat_map (fun _ => rfl) _) | exact relL_flat flat_nil | apply relL_to | apply rn_lst | apply rn_own | apply rn_mp | apply rn_row | apply relH_view rfl | apply relH_lview rfl | apply relH_fact rfl | exact r1_rig | exact r0_rig | exact r1_rigs | exact r0_rigs | apply wo_keep rfl | apply wo_drop rfl | apply r1_agg | apply rn_ptr | apply rn_slice | apply rn_slice0 | apply rn_iface | apply rn_map | apply rn_ifacem | apply r0_map | apply r0_ifacem | apply r0_ptr | apply r0_slice | apply r0_slice0 | apply r0_iface)); (first | done | fail)) : p := h
theorem cvDiskAbs2 {p : Prop} (h : p := by have nw := True.intro; (repeat' (first | exact True.intro | (with_reducible exact rfl) | (with_reducible exact AbsLe.refl) | (guard_target =~ @Eq Nat _ _; first | exact rfl | omega) | (guard_target =~ List.map _ _ = []; exact rfl) | (first | exact covL_still rfl hvs | exact congrArg (Value.int _) (by (try dsimp only); omega)) | (exact congrArg (Value.int _) (by omega)) | (exact covL_flat (flat_map (fun _ => rfl) _)) | (exact covL_flat flat_nil) | (refine covP_all ?_; (try clear nw); have nw := True.intro) | (refine covL_each ?_; (try clear nw); have nw := True.intro) | (refine ⟨?_, ?_⟩ <;> (try clear nw) <;> have nw := True.intro) | (guard_hyp nw : True; ((conv => whnf) <;> clear nw)))); (first | done | fail)) : p := h
set_option maxRecDepth 100000 in
theorem isName_c (s : ByteArray) : CallOb Tryz.prog 29 [.string s] [] 0 (fun v hh m => ∃ z : Bool, z = goodName s ∧ v = .bool z ∧ hh = [] ∧ m = 0) := by
 refine call_spec tabOk mixed Tryz.call29 Tryz.func29 rfl [] (fun z : Bool => z = goodName s) (fun z => .bool z) (fun _ => []) (fun _ => 0) ?_ ?_
 · exact (Nat.le_of_ble_eq_true rfl)
 (repeat' ((try (conv => whnf)); first | (guard_target =~ ∃ (_ : Value), ∃ (_ : HP), ∃ (_ : HP), _; refine ⟨_, _, _, rnDiskAbs1, ?_⟩; (try (dsimp only [Nat.reduceAdd, bC, bL]))) | fail | (with_reducible first | refine chk_in (Nat.ble_eq_true_of_le omT) ?_ | (refine ifB_in ?_ ?_ <;> intro hb <;> (try simp only [bN1, bN2, bN3, bN4, bN5, bN6, bN7, bN8, bN9, bN0] at hb) <;> (try (exfalso; omega))) | refine ⟨_, w64b _, ?_⟩ | refine ⟨_, w64 omT omT, ?_⟩ | refine ⟨_, wu64 omT omT, ?_⟩ | refine ⟨_, wu8 omT omT, ?_⟩ | refine ⟨_, w64 szT szT, ?_⟩ | refine ⟨_, rfl, ?_⟩ | refine ⟨rfl, ?_⟩) | intro cap | (with_reducible refine ⟨trivial, ?_⟩) | (guard_target =~ (planChk _ _ = true) ∧ _; refine ⟨by kernel_rfl, ?_⟩) | (guard_target =~ (_ ∧ _) ∧ _; refine ⟨by ((repeat (first | exact trivial | refine ⟨rfl, ?_⟩)); (first | done | fail)), ?_⟩) | refine ⟨by omega, ?_⟩ | refine ⟨szT, ?_⟩ | refine ⟨0, rfl, ?_⟩ | refine ⟨1, rfl, ?_⟩ | refine ⟨2, rfl, ?_⟩ | refine ⟨3, rfl, ?_⟩ | refine ⟨4, rfl, ?_⟩ | refine ⟨5, rfl, ?_⟩ | (refine cell_at1 (by assumption) ?_) | (refine cell_in1 omT (fun x hx => ?_)) | fail)) <;> (try (conv => whnf))
 all_goals first
  | ((refine Ends.go (_) ?_ [] (Fit.q cvDiskAbs2 (by rfl) (by rfl))); exact (goodName_yes hb).symm)
  | ((refine Ends.go (_) ?_ [] (Fit.q cvDiskAbs2 (by rfl) (by rfl))); exact (goodName_no hb).symm)
  | trace_state
def offS (k : Dk) : Dk := if k.down = true then { k with at' := 0 } else { k with life := k.life + 1, down := true, at' := 0 }
set_option maxRecDepth 100000 in
theorem off_c (k : Dk) (ks vs : List Value) (hvs : ∀ v ∈ vs, still1 v = true) (hk : 0 ≤ k.life ∧ k.life < 4611686018427387904) :
 CallOb Tryz.prog 98 [ptr 0] (dkG k ks vs) 2 (fun v hh m => ∃ z : Dk, z = offS k ∧ v = .tuple ([] : List Value).toArray ∧ hh = dkG z ks vs ∧ m = 2) := by
 refine call_spec tabOk mixed Tryz.call98 Tryz.func98 rfl [] (fun z : Dk => z = offS k) (fun z => .tuple ([] : List Value).toArray) (fun z => dkG z ks vs) (fun _ => 2) ?_ ?_
 · exact (Nat.le_of_ble_eq_true rfl)
 obtain ⟨room, down, ops, life, at', kind, more⟩ := k
 dsimp only at hk
 (repeat' ((try (conv => whnf)); first | (guard_target =~ ∃ (_ : Value), ∃ (_ : HP), ∃ (_ : HP), _; refine ⟨_, _, _, rnDiskAbs1, ?_⟩; (try (dsimp only [Nat.reduceAdd, bC, bL]))) | fail | (with_reducible first | refine chk_in (Nat.ble_eq_true_of_le omT) ?_ | (refine ifB_in ?_ ?_ <;> intro hb <;> (try simp only [bN1, bN2, bN3, bN4, bN5, bN6, bN7, bN8, bN9, bN0] at hb) <;> (try (exfalso; omega))) | refine ⟨_, w64b _, ?_⟩ | refine ⟨_, w64 omT omT, ?_⟩ | refine ⟨_, wu64 omT omT, ?_⟩ | refine ⟨_, wu8 omT omT, ?_⟩ | refine ⟨_, w64 szT szT, ?_⟩ | refine ⟨_, rfl, ?_⟩ | refine ⟨rfl, ?_⟩) | intro cap | (with_reducible refine ⟨trivial, ?_⟩) | (guard_target =~ (planChk _ _ = true) ∧ _; refine ⟨by kernel_rfl, ?_⟩) | (guard_target =~ (_ ∧ _) ∧ _; refine ⟨by ((repeat (first | exact trivial | refine ⟨rfl, ?_⟩)); (first | done | fail)), ?_⟩) | refine ⟨by omega, ?_⟩ | refine ⟨szT, ?_⟩ | refine ⟨0, rfl, ?_⟩ | refine ⟨1, rfl, ?_⟩ | refine ⟨2, rfl, ?_⟩ | refine ⟨3, rfl, ?_⟩ | refine ⟨4, rfl, ?_⟩ | refine ⟨5, rfl, ?_⟩ | (refine cell_at1 (by assumption) ?_) | (refine cell_in1 omT (fun x hx => ?_)) | fail)) <;> (try (conv => whnf))
 all_goals dsimp only [dkG, dkv]
 all_goals first
  | ((refine Ends.go ((⟨room, true, ops, life, 0, kind, more⟩ : Dk)) ?_ [] (Fit.q cvDiskAbs2 (by rfl) (by rfl))); unfold offS; dsimp only at hb ⊢; subst hb; rfl)
  | ((refine Ends.go ((⟨room, true, ops, life + 1, 0, kind, more⟩ : Dk)) ?_ [] (Fit.q cvDiskAbs2 (by rfl) (by rfl))); unfold offS; dsimp only at hb ⊢; subst hb; rfl)
  | trace_state
set_option maxRecDepth 100000 in
theorem dbegin_c (k : Dk) (s : ByteArray) (r : Bool) (ks vs : List Value) (hvs : ∀ v ∈ vs, still1 v = true) (hk : k.Fit) :
 CallOb Tryz.prog 85 [ptr 0, .string s, .bool r] (dkG k ks vs) 2 (fun v hh m => ∃ z : Int × Dk, z = begS k s r ∧ v = iv z.1 ∧ hh = dkG z.2 ks vs ∧ m = 2) := by
 refine call_spec tabOk mixed Tryz.call85 Tryz.func85 rfl [] (fun z : Int × Dk => z = begS k s r) (fun z => iv z.1) (fun z => dkG z.2 ks vs) (fun _ => 2) ?_ ?_
 · exact (Nat.le_of_ble_eq_true rfl)
 obtain ⟨room, down, ops, life, at', kind, more⟩ := k
 unfold Dk.Fit at hk
 dsimp only at hk
 dsimp only [dkG, dkv]
 (repeat' ((try (conv => whnf)); first | (guard_target =~ ∃ (_ : Value), ∃ (_ : HP), ∃ (_ : HP), _; refine ⟨_, _, _, rnDiskAbs1, ?_⟩; (try (dsimp only [Nat.reduceAdd, bC, bL]))) | ((guard_target =~ CallOb _ 29 _ _ _ _; refine call_q (isName_c s) [] cvDiskAbs2 rfT rfT rfT (fun v h1 n1 hp => ?_); obtain ⟨g, hg, rfl, rfl, rfl⟩ := hp); (try (dsimp only [Nat.reduceAdd, bC, bL]))) | ((guard_target =~ CallOb _ 98 _ _ _ _; refine call_q (off_c ⟨room, down, ops + 1, life, at', kind, more⟩ ks vs hvs (by dsimp only; omega)) [(0, some 0), (1, some 1)] cvDiskAbs2 rfT rfT rfT (fun v h1 n1 hp => ?_); obtain ⟨k2, hk2, rfl, rfl, rfl⟩ := hp); unfold offS at hk2; dsimp only at hk2; (try (dsimp only [Nat.reduceAdd, bC, bL]))) | (with_reducible first | refine chk_in (Nat.ble_eq_true_of_le omT) ?_ | (refine ifB_in ?_ ?_ <;> intro hb <;> (try simp only [bN1, bN2, bN3, bN4, bN5, bN6, bN7, bN8, bN9, bN0] at hb) <;> (try (exfalso; omega))) | refine ⟨_, w64b _, ?_⟩ | refine ⟨_, w64 omT omT, ?_⟩ | refine ⟨_, wu64 omT omT, ?_⟩ | refine ⟨_, wu8 omT omT, ?_⟩ | refine ⟨_, w64 szT szT, ?_⟩ | refine ⟨_, rfl, ?_⟩ | refine ⟨rfl, ?_⟩) | intro cap | (with_reducible refine ⟨trivial, ?_⟩) | (guard_target =~ (planChk _ _ = true) ∧ _; refine ⟨by kernel_rfl, ?_⟩) | (guard_target =~ (_ ∧ _) ∧ _; refine ⟨by ((repeat (first | exact trivial | refine ⟨rfl, ?_⟩)); (first | done | fail)), ?_⟩) | refine ⟨by omega, ?_⟩ | refine ⟨szT, ?_⟩ | refine ⟨0, rfl, ?_⟩ | refine ⟨1, rfl, ?_⟩ | refine ⟨2, rfl, ?_⟩ | refine ⟨3, rfl, ?_⟩ | refine ⟨4, rfl, ?_⟩ | refine ⟨5, rfl, ?_⟩ | (refine cell_at1 (by assumption) ?_) | (refine cell_in1 omT (fun x hx => ?_)) | fail)) <;> (try (conv => whnf))
 all_goals first
  | ((refine Ends.go (((1, ⟨room, down, ops, life, at', kind, more⟩) : Int × Dk)) ?_ [] (Fit.q cvDiskAbs2 (by rfl) (by rfl))); unfold begS; simp_all; done)
  | ((refine Ends.go (((10, ⟨room, down, ops, life, at', kind, more⟩) : Int × Dk)) ?_ [] (Fit.q cvDiskAbs2 (by rfl) (by rfl))); unfold begS; simp_all; done)
  | ((refine Ends.go (((0, ⟨room, down, ops + 1, life, at', kind, more⟩) : Int × Dk)) ?_ [] (Fit.q cvDiskAbs2 (by rfl) (by rfl))); unfold begS; simp_all; done)
  | ((refine Ends.go (((0, ⟨room, down, ops + 1, life, at' - 1, kind, more⟩) : Int × Dk)) ?_ [] (Fit.q cvDiskAbs2 (by rfl) (by rfl))); unfold begS; simp_all; done)
  | ((refine Ends.go (((11, ⟨room, down, ops + 1, life, at', kind, more - 1⟩) : Int × Dk)) ?_ [] (Fit.q cvDiskAbs2 (by rfl) (by rfl))); unfold begS; simp_all; done)
  | ((refine Ends.go (((11, ⟨room, down, ops + 1, life, 0, kind, more⟩) : Int × Dk)) ?_ [] (Fit.q cvDiskAbs2 (by rfl) (by rfl))); unfold begS; rw [if_neg (by simp_all), if_neg (by simp_all), if_neg (by dsimp only; omega), if_neg (by dsimp only; omega), if_neg (by dsimp only; omega), if_neg (by dsimp only; omega)])
  | ((refine Ends.go (((10, k2) : Int × Dk)) ?_ [] (Fit.q cvDiskAbs2 (by rfl) (by rfl))); unfold begS; rw [if_neg (by simp_all), if_neg (by simp_all), if_neg (by dsimp only; omega), if_neg (by dsimp only; omega), if_pos (by dsimp only; omega)]; simp_all; done)
  | trace_state
theorem look_files {E : EL} {s : ByteArray} {Kf : Value → Prop} {Kn : Prop} (h1 : ∀ (q : Nat) (L : LF) (X : Fl), E[q]? = some (s, L, X) → Kf (rp L.g)) (h2 : (∀ e ∈ E, e.1 ≠ s) → Kn) : LookOb (names E) (spots E) (.string s) Kf Kn where
 kinds u hu := by obtain ⟨e, _, rfl⟩ := List.mem_map.1 hu; rfl
 len := by rw [List.length_map, List.length_map]
 found j v hj hv := by
  obtain ⟨e1, _⟩ := hj
  rw [List.getElem?_map] at e1 hv
  cases e : E[j]? with
  | none => rw [e] at e1; cases e1
  | some x =>
   rw [e] at e1 hv
   obtain ⟨t, L, X⟩ := x
   simp only [Option.map_some, Option.some.injEq, Value.string.injEq] at e1 hv
   subst e1 hv
   exact h1 j L X e
 none h := h2 fun e he x => h (.string e.1) (List.mem_map_of_mem he) (by rw [x])
theorem find_perm {E : EL} {fs : Fs} (hp : (E.map fun e => (e.1, e.2.2)).Perm fs) (hs : Sorted fs) {s : ByteArray} {q : Nat} {L : LF} {X : Fl} (h : E[q]? = some (s, L, X)) : findF fs s = some X := by
 have hm : (s, X) ∈ fs := hp.mem_iff.1 (List.mem_map.2 ⟨(s, L, X), List.mem_of_getElem? h, rfl⟩)
 have key : ∀ fs : Fs, Sorted fs → (s, X) ∈ fs → findF fs s = some X := by
  intro fs
  induction fs with
  | nil => intro _ h; cases h
  | cons p r ih =>
   intro hs hm
   unfold findF
   by_cases hp : p.1 = s
   · rw [List.find?_cons_of_pos (by simpa using hp)]
     cases hm with
     | head => rfl
     | tail _ hm =>
      have := (List.pairwise_cons.1 hs).1 _ hm
      rw [hp] at this
      exact absurd this (strLt_irrefl s)
   · rw [List.find?_cons_of_neg (by simpa using hp)]
     cases hm with
     | head => exact absurd rfl hp
     | tail _ hm => exact ih (List.pairwise_cons.1 hs).2 hm
 exact key fs hs hm
theorem find_no {E : EL} {fs : Fs} (hp : (E.map fun e => (e.1, e.2.2)).Perm fs) {s : ByteArray} (h : ∀ e ∈ E, e.1 ≠ s) : findF fs s = none := by
 unfold findF
 rw [Option.map_eq_none_iff, List.find?_eq_none]
 intro p hm
 obtain ⟨e, he, rfl⟩ := List.mem_map.1 (hp.mem_iff.2 hm)
 simpa using h e he
end Go.Proofs.YtelolcagncgfpaaGreat
namespace Go.Proofs.YtelolcagncgfpaaGreat
open Go.RowKit
set_option linter.unusedSimpArgs false
set_option linter.unusedVariables false
attribute [local irreducible] bytesOf strOf strEq strLt sfrom begS
def fptr : Option LF → Value | none => .pointer none | some L => rp L.g
def FoundR (k : Dk) (s : ByteArray) (r : Bool) (E : EL) (z : Int × Dk × Option LF) : Prop :=
 z.2.1 = (begS k s r).2 ∧ ((z.1 = (begS k s r).1 ∧ z.1 ≠ 0 ∧ z.2.2 = none) ∨ ((begS k s r).1 = 0 ∧ z.1 = 14 ∧ z.2.2 = none ∧ ∀ e ∈ E, e.1 ≠ s) ∨ ((begS k s r).1 = 0 ∧ z.1 = 0 ∧ ∃ (q : Nat) (L : LF) (X : Fl), E[q]? = some (s, L, X) ∧ z.2.2 = some L))
set_option maxRecDepth 100000 in
theorem found_l (k : Dk) (s : ByteArray) (r : Bool) (E : EL) (C : CM) (hk : k.Fit) :
 CallOb Tryz.prog 61 [ptr 0, .string s, .bool r] (rawH k E C) 3 (fun v hh m => ∃ z : Int × Dk × Option LF, FoundR k s r E z ∧ v = .tuple #[fptr z.2.2, iv z.1] ∧ hh = rawH z.2.1 E C ∧ m = 3) := by
 have hvs := spots_still E
 refine call_spec tabOk mixed Tryz.call61 Tryz.func61 rfl [] (FoundR k s r E) (fun z => .tuple #[fptr z.2.2, iv z.1]) (fun z => rawH z.2.1 E C) (fun _ => 3) ?_ ?_
 · exact (Nat.le_of_ble_eq_true rfl)
 (repeat' ((try (conv => whnf)); first | (guard_target =~ ∃ (_ : Value), ∃ (_ : HP), ∃ (_ : HP), _; refine ⟨_, _, _, rnDiskAbs1, ?_⟩; (try (dsimp only [Nat.reduceAdd, bC, bL]))) | (guard_target =~ LookOb _ _ _ _ _; refine look_files (fun q L X hq => ?_) (fun hN => ?_)) | ((guard_target =~ CallOb _ 85 _ _ _ _; refine call_q (dbegin_c k s r (names E) (spots E) hvs hk) [(0, some 0), (1, some 1)] cvDiskAbs2 rfT rfT rfT (fun v h1 n1 hp => ?_); obtain ⟨z, hz, rfl, rfl, rfl⟩ := hp); (try (dsimp only [Nat.reduceAdd, bC, bL]))) | (with_reducible first | refine chk_in (Nat.ble_eq_true_of_le omT) ?_ | (refine ifB_in ?_ ?_ <;> intro hb <;> (try simp only [bN1, bN2, bN3, bN4, bN5, bN6, bN7, bN8, bN9, bN0] at hb) <;> (try (exfalso; omega))) | refine ⟨_, w64b _, ?_⟩ | refine ⟨_, w64 omT omT, ?_⟩ | refine ⟨_, wu64 omT omT, ?_⟩ | refine ⟨_, wu8 omT omT, ?_⟩ | refine ⟨_, w64 szT szT, ?_⟩ | refine ⟨_, rfl, ?_⟩ | refine ⟨rfl, ?_⟩) | intro cap | (with_reducible refine ⟨trivial, ?_⟩) | (guard_target =~ (planChk _ _ = true) ∧ _; refine ⟨by kernel_rfl, ?_⟩) | (guard_target =~ (_ ∧ _) ∧ _; refine ⟨by ((repeat (first | exact trivial | refine ⟨rfl, ?_⟩)); (first | done | fail)), ?_⟩) | refine ⟨by omega, ?_⟩ | refine ⟨szT, ?_⟩ | refine ⟨0, rfl, ?_⟩ | refine ⟨1, rfl, ?_⟩ | refine ⟨2, rfl, ?_⟩ | refine ⟨3, rfl, ?_⟩ | refine ⟨4, rfl, ?_⟩ | refine ⟨5, rfl, ?_⟩ | (refine cell_at1 (by assumption) ?_) | (refine cell_in1 omT (fun x hx => ?_)) | fail)) <;> (try (conv => whnf))
 all_goals first
  | ((refine Ends.go (((z.1, z.2, none) : Int × Dk × Option LF)) ?_ [] (Fit.q cvDiskAbs2 (by rfl) (by rfl))); exact ⟨by rw [← hz], .inl ⟨by rw [← hz], by dsimp only; omega, rfl⟩⟩)
  | ((refine Ends.go (((14, z.2, none) : Int × Dk × Option LF)) ?_ [] (Fit.q cvDiskAbs2 (by rfl) (by rfl))); exact ⟨by rw [← hz], .inr (.inl ⟨by rw [← hz]; omega, rfl, rfl, hN⟩)⟩)
  | ((refine Ends.go (((0, z.2, some L) : Int × Dk × Option LF)) ?_ [] (Fit.q cvDiskAbs2 (by rfl) (by rfl))); exact ⟨by rw [← hz], .inr (.inr ⟨by rw [← hz]; omega, rfl, q, L, X, hq, rfl⟩)⟩)
  | trace_state
theorem of_raw {f : FuncId} (hok : FnOk Tryz.prog f) {args : List Value} {S : Nat → Prop} {D : DM} {K : Value → HP → Nat → Prop} (hc : ∀ E C, (E.map fun e => (e.1, e.2.2)).Perm D.fs → CallOb Tryz.prog f (ptr 0 :: args) (rawH D.k E C) 3 K) :
 CallOb Tryz.prog f (ptr 0 :: args) [(0, diskI S D)] 1 K := by
 refine CallOb.pre hok fun F B w0 m w cs H hcs => ?_
 match cs, hcs with
 | c :: cs, ⟨h0, hr⟩ =>
  obtain ⟨b, hb, rfl⟩ := VR.ptr h0
  obtain ⟨g, s, hg, hs, rfl⟩ := hb.old
  obtain ⟨g', s', hg', ok⟩ := H.dom 0 _ (rfl : lkH [(0, diskI S D)] 0 = some (diskI S D))
  obtain ⟨rfl, rfl⟩ := H.fn _ _ _ _ _ hg hg'
  rcases ok.1 with ⟨x, _⟩ | rfl
  · exact absurd x hs
  obtain ⟨E, C, m', hle, hp, H'⟩ := open_disk H (i := 0) (S := S) (D := D) rfl hg
  refine ⟨m', ptr 0 :: args, rawH D.k E C, 3, hle, H'.sub_of fun i it e => ?_, ⟨h0.mono hle, LR.mono (fun _ _ x => x.mono hle) hr⟩, hc E C hp⟩
  have := lkH_mem e
  simp only [List.mem_cons, Prod.mk.injEq, List.not_mem_nil, or_false] at this
  rcases this with ⟨rfl, rfl⟩ | ⟨rfl, rfl⟩ | ⟨rfl, rfl⟩ <;> rfl
def FoundP (k : Dk) (s : ByteArray) (r : Bool) (E : EL) (C : CM) (v : Value) (h : HP) (n : Nat) : Prop :=
 (∃ (e : Int) (k' : Dk), FoundR k s r E (e, k', none) ∧ e ≠ 0 ∧ v = .tuple #[.pointer none, iv e] ∧ h = rawH k' E C ∧ n = 3) ∨
 (∃ (e : Int) (k' : Dk) (q : Nat) (L : LF) (X : Fl), FoundR k s r E (e, k', some L) ∧ e = 0 ∧ E[q]? = some (s, L, X) ∧ FxOk C (fxOf L X) X ∧ FxCap (fxOf L X) ∧ v = .tuple #[ptr 3, iv e] ∧ h = focH k' E q C (fxOf L X) ∧ n = 7)
theorem VR.pair2 {m : BM} {a b c : Value} (h : VR m (.tuple #[a, b]) c) : ∃ x y, V1 m a x ∧ V1 m b y ∧ c = .tuple #[x, y] := by
 obtain ⟨l, hl, rfl⟩ := VR.tup h
 match l, hl with
 | [x, y], ⟨h1, h2, _⟩ => exact ⟨x, y, h1, h2, rfl⟩
theorem found_f (k : Dk) (s : ByteArray) (r : Bool) (E : EL) (C : CM) (hk : k.Fit) : CallOb Tryz.prog 61 [ptr 0, .string s, .bool r] (rawH k E C) 3 (FoundP k s r E C) := by
 refine (found_l k s r E C hk).conv ?_
 rintro v h1 n1 ⟨⟨e, k', o⟩, hR, rfl, rfl, rfl⟩ F B w0 m w c H hv
 dsimp only at H hv
 cases o with
 | none =>
  refine ⟨m, _, _, _, BM.le_refl m, hv, H, .inl ⟨e, k', hR, ?_, rfl, rfl, rfl⟩⟩
  rcases hR.2 with ⟨_, h, _⟩ | ⟨_, h, _⟩ | ⟨_, _, q, L, X, _, h⟩
  · exact h
  · show e ≠ 0
    have h : e = 14 := h
    rw [h]; decide
  · cases h
 | some L =>
  obtain ⟨q, X, hq, he⟩ : ∃ (q : Nat) (X : Fl), E[q]? = some (s, L, X) ∧ e = 0 := by
   rcases hR.2 with ⟨_, _, h⟩ | ⟨_, _, h, _⟩ | ⟨_, h0, q, L', X, hq, h⟩
   · cases h
   · cases h
   · cases h; exact ⟨q, X, hq, h0⟩
  obtain ⟨m', hle, h3, H', c1, c2, c3, c4, c5⟩ := open_file H (j := 1) (r := 2) (q := q) (s := s) (L := L) (X := X) rfl rfl (by decide) hq
  obtain ⟨x, y, hx, hy, rfl⟩ := VR.pair2 hv
  refine ⟨m', .tuple #[ptr 3, iv e], focH k' E q C (fxOf L X), 7, hle, ⟨[x, y], ⟨?_, hy.mono hle, trivial⟩, rfl⟩, H'.sub_of fun i it e => ?_, .inr ⟨e, k', q, L, X, hR, he, hq, ⟨c1, c2, rfl, rfl⟩, ⟨c3, c4, c5⟩, rfl, rfl, rfl⟩⟩
  · rw [rp_cp.1 hx]
    exact (V1.of0 rfl).2 ⟨_, A0.in h3 zero_ne_nilS, by rw [sh_zero]⟩
  · have := lkH_mem e
    simp only [List.mem_cons, Prod.mk.injEq, List.not_mem_nil, or_false] at this
    rcases this with ⟨rfl, rfl⟩ | ⟨rfl, rfl⟩ | ⟨rfl, rfl⟩ | ⟨rfl, rfl⟩ | ⟨rfl, rfl⟩ | ⟨rfl, rfl⟩ | ⟨rfl, rfl⟩ <;> rfl
end Go.Proofs.YtelolcagncgfpaaGreat
namespace Go.Proofs.YtelolcagncgfpaaGreat
open Go.RowKit
set_option linter.unusedSimpArgs false
set_option linter.unusedVariables false
abbrev filesOf (E : EL) : Fs := E.map fun e => (e.1, e.2.2)
abbrev Foc := Option (Nat × Fx × Fl)
def shH (k : Dk) (E : EL) (C : CM) : Foc → HP
 | none => rawH k E C
 | some (q, x, _) => focH k E q C x
def shN : Foc → Nat | none => 3 | some _ => 7
structure LitP {α : Type} (E : EL) (C : CM) (vT : α → Value) (R : α → Dk → Foc → Prop) (v : Value) (h : HP) (n : Nat) : Prop where
 ex : ∃ a k o, R a k o ∧ v = vT a ∧ h = shH k E C o ∧ n = shN o
def AbsP {α : Type} (vT : α → Value) (R : α → DM → Prop) (v : Value) (h : HP) (n : Nat) : Prop :=
 ∃ (a : α) (D : DM) (S : Nat → Prop), R a D ∧ v = vT a ∧ h = [(0, diskI S D)] ∧ n = 20
def FocOk (E : EL) (C : CM) (fs : Fs) (o : Foc) (fs' : Fs) : Prop := match o with
 | none => fs' = fs
 | some (q, x, X') => ∃ (s : ByteArray) (L : LF) (X : Fl), E[q]? = some (s, L, X) ∧ FxOk C x X' ∧ fs' = putF fs s X'
theorem lit_abs {f : FuncId} {args : List Value} {D : DM} {E : EL} {C : CM} {α : Type} {vT : α → Value} {R : α → Dk → Foc → Prop} (hf : ∀ a, flatR (vT a) = true) (hs : Sorted D.fs) (hp : (filesOf E).Perm D.fs)
 (C0 : CallOb Tryz.prog f args (rawH D.k E C) 3 (LitP E C vT R)) {R' : α → DM → Prop} (hR : ∀ a k o, R a k o → ∃ fs', FocOk E C D.fs o fs' ∧ R' a ⟨k, fs'⟩) : CallOb Tryz.prog f args (rawH D.k E C) 3 (AbsP vT R') := by
 refine C0.conv ?_
 rintro v h1 n1 ⟨a, k, o, hr, rfl, rfl, rfl⟩ F B w0 m w c H hv
 obtain ⟨fs', hfo, hr'⟩ := hR a k o hr
 have done : ∀ {n : Nat}, n ≤ 20 → (∃ S, HRel F B w0 m [(0, diskI S ⟨k, fs'⟩)] n w) → ∃ m' v' h2 n2, m.le m' ∧ VR m' v' c ∧ HRel F B w0 m' h2 n2 w ∧ AbsP vT R' v' h2 n2 := by
  rintro n hn ⟨S, H'⟩
  exact ⟨m, vT a, _, 20, BM.le_refl m, hv, H'.up (BM.le_refl m) H'.fn (fun i g s x => Nat.lt_of_lt_of_le (H'.fresh i g s x) hn), a, _, S, hr', rfl, rfl, rfl⟩
 cases o with
 | none =>
  cases hfo
  exact done (n := 3) (by decide) (close_raw H hp)
 | some z =>
  obtain ⟨q, x, X'⟩ := z
  obtain ⟨s, L, X, hq, ok, rfl⟩ := hfo
  have hl : (filesOf E)[q]? = some (s, X) := by rw [List.getElem?_map, hq]; rfl
  have hlt : q < (filesOf E).length := by
   rcases Nat.lt_or_ge q (filesOf E).length with y | y
   · exact y
   · rw [List.getElem?_eq_none y] at hl; cases hl
  exact done (n := 7) (by decide) (close_foc H hq ok (put_perm hp hs hl (perm_erase hl) (erase_set_perm _ hlt)))
theorem ro_still (p : Option Nat) : still1 (ro p) = true := by cases p <;> rfl
theorem relL_set {r : Nat → Nat} {E : EL} {q i j : Nat} (e : r i = j) : relL r ((spots E).set q (ptr i)) ((spots E).set q (ptr j)) := by
 subst e
 refine .inr ?_
 rw [List.map_set]
 congr 1
 rw [List.map_map]
 exact List.map_congr_left fun e _ => rfl
theorem covL_set {np : Nat} {L : IdMap} {E : EL} {q i j : Nat} (e : cov1 np L (ptr i) (ptr j)) : covL np L ((spots E).set q (ptr i)) ((spots E).set q (ptr j)) := by
 refine .inr (LR.set q ?_ e)
 induction E with
 | nil => trivial
 | cons x r ih => exact ⟨⟨rfl, rfl, rfl⟩, ih⟩
theorem rig_torn {h : HP} {i p : Nat} {E : EL} {C : CM} {c : Cv} (e : lkH h i = some (restI E C)) (hc : (p, c) ∈ C) : RigLd tab h 4 p 1 (.bool c.isNone) :=
 rigLd_abs e ⟨_, rfl, rfl⟩ rfl rfl fun _ w H => by
  rw [(H.cells _ hc).cell]
  cases c <;> rfl
theorem rig_data {h : HP} {i p : Nat} {E : EL} {C : CM} {c : Cv} (e : lkH h i = some (restI E C)) (hc : (p, c) ∈ C) : RigLd tab h 9 p 0 (.string (c.getD ⟨#[]⟩)) :=
 rigLd_abs e ⟨_, rfl, rfl⟩ rfl rfl fun _ w H => by
  rw [(H.cells _ hc).cell]
  cases c <;> rfl
theorem pn_get {C : CM} {x : Fx} {X : Fl} (ok : FxOk C x X) {i : Nat} (hi : i < x.pn.length) : ∃ p c, x.pn[i]? = some p ∧ X.now[i]? = some c ∧ (p, c) ∈ C := by
 obtain ⟨c, h1, h2⟩ := ok.c1.get (List.getElem?_eq_getElem hi)
 exact ⟨_, c, List.getElem?_eq_getElem hi, h1, h2⟩
section
variable {D : DM} {s : ByteArray} {r : Bool} {E : EL} {k' : Dk}
theorem found_none (hp : (filesOf E).Perm D.fs) (hs : Sorted D.fs) {e : Int} (h : FoundR D.k s r E (e, k', none)) : foundD D s r = (e, ⟨k', D.fs⟩) := by
 obtain ⟨h1, h2⟩ := h
 dsimp only at h1 h2
 subst h1
 unfold foundD
 rcases h2 with ⟨h3, h4, _⟩ | ⟨h3, h4, _, hN⟩ | ⟨_, _, q, L, X, _, hc⟩
 · subst h3; simp only [h4, ne_eq, not_false_eq_true, if_true]
 · subst h4; simp only [h3, ne_eq, not_true_eq_false, if_false, find_no hp hN]; rfl
 · cases hc
theorem found_some (hp : (filesOf E).Perm D.fs) (hs : Sorted D.fs) {e : Int} {q : Nat} {L L' : LF} {X : Fl} (h : FoundR D.k s r E (e, k', some L')) (hq : E[q]? = some (s, L, X)) : foundD D s r = (0, ⟨k', D.fs⟩) ∧ findF D.fs s = some X := by
 obtain ⟨h1, h2⟩ := h
 dsimp only at h1 h2
 subst h1
 have hf := find_perm hp hs hq
 unfold foundD
 rcases h2 with ⟨_, _, hc⟩ | ⟨_, _, hc, _⟩ | ⟨h3, _⟩
 · cases hc
 · cases hc
 · exact ⟨by simp only [h3, ne_eq, not_true_eq_false, if_false, hf]; rfl, hf⟩
theorem found_n14 (hp : (filesOf E).Perm D.fs) {e : Int} (h : FoundR D.k s r E (e, k', none)) (he : e = 14) (hb : (begS D.k s r).1 ≠ 14) : findF D.fs s = none := by
 obtain ⟨h1, h2⟩ := h
 dsimp only at h1 h2
 rcases h2 with ⟨h3, h4, _⟩ | ⟨h3, h4, _, hN⟩ | ⟨_, _, q, L, X, _, hc⟩
 · exact absurd (h3.symm.trans he) hb
 · exact find_no hp hN
 · cases hc
end
theorem begS_n14 (k : Dk) (s : ByteArray) (r : Bool) : (begS k s r).1 ≠ 14 := by
 unfold begS
 repeat' split
 all_goals (dsimp only; decide)
theorem ok_files {E : EL} {fs : Fs} (hp : (filesOf E).Perm fs) (h : fs.Ok) : ∀ e ∈ E, e.2.2.Ok := fun e he => h.files (e.1, e.2.2) (hp.mem_iff.1 (List.mem_map.2 ⟨e, he, rfl⟩))
end Go.Proofs.YtelolcagncgfpaaGreat
