/- What a journal holds that counts: found.add, Find; pages, awake. -/
import Derived.Test.YtelolcagncgfpaaGreatJrnWalk
namespace Go.Proofs.YtelolcagncgfpaaGreat
open Go.RowKit
set_option linter.unusedSimpArgs false
set_option linter.unusedVariables false
theorem sub_flat {T : Type} {f : T → List Value} {l : List T} {n i o : Nat} {y : T} (hn : ∀ y, (f y).length = n) (hy : l[i]? = some y) (ho : o = i * n) : subL (l.flatMap f) o n = some (f y) := by
 obtain ⟨hi, he⟩ := List.getElem?_eq_some_iff.1 hy
 have hlen := flat_length hn l
 have hin : i * n + n ≤ l.length * n := by
  have : (i + 1) * n ≤ l.length * n := Nat.mul_le_mul_right n hi
  rw [Nat.add_mul, Nat.one_mul] at this; exact this
 refine subL_in (List.ext_getElem? fun j => ?_) (hn y) (fun _ => by rw [hlen, ho]; omega)
 rw [List.getElem?_take, List.getElem?_drop, ho]
 by_cases hj : j < n
 · rw [if_pos hj, flat_getElem hn l i j y hy hj]
 · rw [if_neg hj, List.getElem?_eq_none (by rw [hn y]; omega)]
theorem flat_bind {α : Type} {f : α → List Value} (h : ∀ a, (f a).all flat1 = true) (l : List α) : ∀ v ∈ l.flatMap f, flat1 v = true := by
 intro v hv
 obtain ⟨a, _, ha⟩ := List.mem_flatMap.1 hv
 exact List.all_eq_true.1 (h a) v ha
theorem app_flat {α : Type} {B : List α} {x : α} {f : α → List Value} {l : List Value} (h : l = f x) : B.flatMap f ++ l = (B ++ [x]).flatMap f := by rw [h, List.flatMap_append, List.flatMap_singleton]
theorem strEq_self (s : ByteArray) : strEq s s = true := strEq_true.2 rfl
theorem strEq_ne {a b : ByteArray} (h : strEq a b = false) : a ≠ b := fun e => by rw [e, strEq_self] at h; cases h
theorem strEq_is {a b : ByteArray} (h : strEq a b = true) : a = b := bytesOf_inj.1 (strEq_true.1 h)
abbrev pgv (p : Pg) : List Value := [iv p.1, .string p.2]
theorem pgs_len (l : List Pg) : (l.flatMap pgv).length = l.length * 2 := flat_length (f := pgv) (n := 2) (fun _ => rfl) l
theorem all_pgs {l : List Pg} {ty c : Nat} : subL (Itm.lst ty 2 c (l.flatMap pgv)).cells 0 (l.length * 2) = some (l.flatMap pgv) :=
 subL_in (by show ((l.flatMap pgv).drop 0).take _ = _; rw [List.drop_zero, List.take_of_length_le (by rw [pgs_len]; exact Nat.le_refl _)]) (pgs_len l) (fun _ => Nat.zero_le _)
theorem one_pgs (l : List Pg) : oneAll (l.flatMap pgv) = true := by
 unfold oneAll
 rw [List.all_eq_true]
 intro v hv
 obtain ⟨p, _, hv⟩ := List.mem_flatMap.1 hv
 simp only [List.mem_cons, List.not_mem_nil, or_false] at hv
 rcases hv with rfl | rfl <;> rfl
section
variable {F : FM} {k n salt : Int} {d : ByteArray} {first : Bool}
theorem addF_salt (h : first = false ∧ salt ≠ F.salt) : addF F k n salt d first = none := by unfold addF; rw [if_pos h]
theorem addF_rec (h0 : ¬ (first = false ∧ salt ≠ F.salt)) (hk : k = 2) : (n < 4096 → addF F k n salt d first = some { F with salt := salt, loose := F.loose ++ [(n, d)] }) ∧ (¬ n < 4096 → addF F k n salt d first = none) := by
 unfold addF
 rw [if_neg h0, if_pos hk]
 exact ⟨fun h => by rw [if_pos h], fun h => by rw [if_neg h]⟩
def BadF (F : FM) (m n : Int) (d : ByteArray) : Prop := 4096 < m ∨ (0 < F.feet ∧ m ≠ F.pages) ∨ d ≠ footS m F.feet ∨ n ≠ F.loose.length ∨ (∃ p ∈ F.loose, m ≤ p.1)
theorem addF_foot (h0 : ¬ (first = false ∧ salt ≠ F.salt)) (hk : k = 3) {m : Int} (hm : m = (numOf ((bytesOf d).take 4) : Nat)) : (BadF F m n d → addF F k n salt d first = none) ∧ (¬ BadF F m n d → addF F k n salt d first = some ⟨m, F.feet + 1, salt, F.sure ++ F.loose, []⟩) := by
 unfold addF BadF
 rw [if_neg h0, if_neg (by omega), if_pos hk]
 dsimp only
 rw [← hm]
 exact ⟨fun h => by rw [if_pos h], fun h => by rw [if_neg h]⟩
theorem addF_other (h0 : ¬ (first = false ∧ salt ≠ F.salt)) (h2 : ¬ k = 2) (h3 : ¬ k = 3) : addF F k n salt d first = none := by
 unfold addF
 rw [if_neg h0, if_neg h2, if_neg h3]
end
structure FOk (F : FM) (c : Nat) : Prop where
 pages : 0 ≤ F.pages ∧ F.pages ≤ 4096
 feet : 0 ≤ F.feet ∧ F.feet ≤ c
 len : F.sure.length + F.loose.length ≤ c
theorem FOk.start : FOk fm0 0 := ⟨by decide, by decide, by decide⟩
structure AddR (F : FM) (c : Nat) (k n salt : Int) (d : ByteArray) (first b : Bool) (F' : FM) (c1 c2 : Nat) : Prop where
 yes : b = true → addF F k n salt d first = some F'
 no : b = false → addF F k n salt d first = none ∧ F'.pages = F.pages ∧ F'.feet = F.feet ∧ F'.sure = F.sure
 ok : FOk F' (c + 1)
 c1 : F'.sure.length ≤ c1
 c2 : F'.loose.length ≤ c2
abbrev fmv (F : FM) (i j c1 c2 : Nat) : List Value := [iv F.pages, iv F.feet, .int .u64 F.salt, mslice i F.sure.length c1, mslice j F.loose.length c2]
abbrev fmH (F : FM) (i j c1 c2 : Nat) : HP := [(0, .own 81 (fmv F i j c1 c2)), (i, .lst 51 2 c1 (F.sure.flatMap pgv)), (j, .lst 51 2 c2 (F.loose.flatMap pgv))]
attribute [local irreducible] numOf fixedL bytesOf strOf strEq strLt sfrom closeS closeE layD footS writeD sizeD syncD dropD readD addF stepF findL
abbrev aboveF (i : Nat) : Value := .func (.func 66) #[] #[ptr i]
theorem rnJrnFind1 {p : Prop} (h : p := by refine ⟨?_, ?_, ?_⟩; (first | apply rR_tuple | apply rR_one rfl | exact rfl); all_goals (repeat' (first | (with_reducible (first | exact relH_nil | apply rn_lst | apply rn_own | apply rn_mp | apply rn_row | apply rn_abs | exact wo_nil)) | apply wo_keep rfl | apply wo_drop rfl | exact relH_nil | exact r1_flat rfl | exact r0_flat rfl | exact rl_nil | exact wo_nil | exact bk_old rfl | exact bk_new rfl | exact bk_nil rfl | apply rl_cons | (first | exact relL_flat (flat_bind (f := pgv) (fun _ => rfl) _) | exact relL_flat (flat_map (fun _ => rfl) _) | first | exact relL_still hvs | exact relL_still (still_map (fun _ => rfl) _) | exact relL_still (still_map ro_still _) | exact relL_flat (flat_map (fun _ => rfl) _) | apply relL_set) | exact relL_flat (flat_map (fun _ => rfl) _) | exact relL_flat flat_nil | apply relL_to | apply rn_lst | apply rn_own | apply rn_mp | apply rn_row | apply relH_view rfl | apply relH_lview rfl | apply relH_fact rfl | exact r1_rig | exact r0_rig | exact r1_rigs | exact r0_rigs | apply wo_keep rfl | apply wo_drop rfl | apply r1_agg | apply rn_ptr | apply rn_slice | apply rn_slice0 | apply rn_iface | apply rn_map | apply rn_ifacem | apply r0_map | apply r0_ifacem | apply r0_ptr | apply r0_slice | apply r0_slice0 | apply r0_iface)); (first | done | fail)) : p := h
theorem cvJrnFind2 {p : Prop} (h : p := by have nw := True.intro; (repeat' (first | exact True.intro | (with_reducible exact rfl) | (with_reducible exact AbsLe.refl) | (guard_target =~ @Eq Nat _ _; first | exact rfl | omega) | (guard_target =~ List.map _ _ = []; exact rfl) | (first | (guard_target =~ @Eq (List Value) _ _; exact rfl) | (guard_target =~ @Eq Nat _ _; dsimp only; exact (List.length_append).symm) | (guard_target =~ @Eq Nat _ _; dsimp only; rw [List.length_append]; rfl) | exact covL_of (app_flat rfl) (flat_bind (f := pgv) (fun _ => rfl) _) | exact covL_of (List.flatMap_append).symm (flat_bind (f := pgv) (fun _ => rfl) _) | exact covL_of rfl (flat_bind (f := pgv) (fun _ => rfl) _) | exact covL_of rfl (flat_map (fun _ => rfl) _) | first | exact covL_still rfl hvs | exact covL_still rfl (still_map (fun _ => rfl) _) | exact covL_still rfl (still_map ro_still _) | (apply covL_set <;> (try clear nw) <;> have nw := True.intro) | exact congrArg (Value.int _) (by (try dsimp only); omega)) | (exact congrArg (Value.int _) (by omega)) | (exact covL_flat (flat_map (fun _ => rfl) _)) | (exact covL_flat flat_nil) | (refine covP_all ?_; (try clear nw); have nw := True.intro) | (refine covL_each ?_; (try clear nw); have nw := True.intro) | (refine ⟨?_, ?_⟩ <;> (try clear nw) <;> have nw := True.intro) | (guard_hyp nw : True; ((conv => whnf) <;> clear nw)))); (first | done | fail)) : p := h
theorem above_c (p : Pg) (n : Int) : CallOb Tryz.prog 66 [.agg (pgv p).toArray, ptr 0] [(0, .own 3 [iv n])] 1 (fun v hh m => ∃ z : Bool, (z = true ↔ n ≤ p.1) ∧ v = .bool z ∧ hh = [(0, .own 3 [iv n])] ∧ m = 1) := by
 refine call_spec tabOk mixed Tryz.call66 Tryz.func66 rfl [] (fun z : Bool => z = true ↔ n ≤ p.1) (fun z => .bool z) (fun _ => [(0, .own 3 [iv n])]) (fun _ => 1) ?_ ?_
 · exact (Nat.le_of_ble_eq_true rfl)
 (repeat' ((try (conv => whnf)); first | (guard_target =~ ∃ (_ : Value), ∃ (_ : HP), ∃ (_ : HP), _; refine ⟨_, _, _, rnJrnFind1, ?_⟩; (try (dsimp only [Nat.reduceAdd, bC, bL]))) | (fail) | (with_reducible first | refine chk_in (Nat.ble_eq_true_of_le omT) ?_ | (refine ifB_in ?_ ?_ <;> intro hb <;> (try simp only [bN1, bN2, bN3, bN4, bN5, bN6, bN7, bN8, bN9, bN0] at hb) <;> (try (exfalso; omega))) | refine ⟨_, w64b _, ?_⟩ | refine ⟨_, w64 omT omT, ?_⟩ | refine ⟨_, wu64 omT omT, ?_⟩ | refine ⟨_, wu8 omT omT, ?_⟩ | refine ⟨_, w64 szT szT, ?_⟩ | refine ⟨_, rfl, ?_⟩ | refine ⟨rfl, ?_⟩) | intro cap | (with_reducible refine ⟨trivial, ?_⟩) | (guard_target =~ (planChk _ _ = true) ∧ _; refine ⟨by kernel_rfl, ?_⟩) | (guard_target =~ (_ ∧ _) ∧ _; refine ⟨by ((repeat (first | exact trivial | refine ⟨rfl, ?_⟩)); (first | done | fail)), ?_⟩) | refine ⟨by omega, ?_⟩ | refine ⟨szT, ?_⟩ | refine ⟨0, rfl, ?_⟩ | refine ⟨1, rfl, ?_⟩ | refine ⟨2, rfl, ?_⟩ | refine ⟨3, rfl, ?_⟩ | refine ⟨4, rfl, ?_⟩ | refine ⟨5, rfl, ?_⟩ | (refine cell_at1 (by assumption) ?_) | (refine cell_in1 omT (fun x hx => ?_)) | fail)) <;> (try (conv => whnf))
 (refine Ends.go (_) ?_ [(0, some 0)] (Fit.q cvJrnFind2 (by rfl) (by rfl)))
 exact decide_eq_true_iff
theorem index_c (l : List Pg) (cap : Nat) (n : Int) (hl : l.length < 9223372036854775807) : CallOb Tryz.prog 88 [mslice 0 l.length cap, aboveF 1] [(0, .lview (l.flatMap pgv)), (1, .own 3 [iv n])] 2 (fun v hh m => ∃ z : Int, (0 ≤ z ↔ ∃ p ∈ l, n ≤ p.1) ∧ v = iv z ∧ hh = [(1, .own 3 [iv n])] ∧ m = 2) := by
 refine call_spec tabOk mixed Tryz.call88 Tryz.func88 rfl [] (fun z : Int => 0 ≤ z ↔ ∃ p ∈ l, n ≤ p.1) (fun z => iv z) (fun _ => [(1, .own 3 [iv n])]) (fun _ => 2) ?_ ?_
 · exact (Nat.le_of_ble_eq_true rfl)
 (repeat' ((try (conv => whnf)); first | (guard_target =~ ∃ (_ : Value), ∃ (_ : HP), ∃ (_ : HP), _; refine ⟨_, _, _, rnJrnFind1, ?_⟩; (try (dsimp only [Nat.reduceAdd, bC, bL]))) | (guard_target =~ LoopOb _ _ _ _ _ _ _ _; refine loop_rule tabOk mixed [] 2 (fun k => [(0, mslice 0 l.length cap), (1, aboveF 1), (7, iv (l.length : Nat)), (8, iv (k : Nat))]) (fun k => [(0, .lview (l.flatMap pgv)), (1, .own 3 [iv n])]) (fun k => l.length - k) (fun k => k ≤ l.length ∧ ∀ c ∈ l.take k, ¬ n ≤ c.1) (0) (⟨Nat.zero_le _, fun c hc => by simp at hc⟩) ⟨[(0, some 0), (1, some 1)], Sub.q cvJrnFind2 (by rfl) (by rfl)⟩ (fun k hk => ?_)) | (obtain ⟨c, hc⟩ : ∃ c, l[k]? = some c := ⟨_, List.getElem?_eq_getElem (show k < l.length by omega)⟩; refine onS_in (sub_flat (f := pgv) (n := 2) (fun _ => rfl) hc omT) ?_) | ((guard_target =~ CallOb _ 66 _ _ _ _; refine call_q (above_c c n) [(0, some 1)] cvJrnFind2 rfT rfT rfT (fun v h1 n1 hp => ?_); obtain ⟨z, hz, rfl, rfl, rfl⟩ := hp); (try (dsimp only [Nat.reduceAdd, bC, bL]))) | (with_reducible first | refine chk_in (Nat.ble_eq_true_of_le omT) ?_ | (refine ifB_in ?_ ?_ <;> intro hb <;> (try simp only [bN1, bN2, bN3, bN4, bN5, bN6, bN7, bN8, bN9, bN0] at hb) <;> (try (exfalso; omega))) | refine ⟨_, w64b _, ?_⟩ | refine ⟨_, w64 omT omT, ?_⟩ | refine ⟨_, wu64 omT omT, ?_⟩ | refine ⟨_, wu8 omT omT, ?_⟩ | refine ⟨_, w64 szT szT, ?_⟩ | refine ⟨_, rfl, ?_⟩ | refine ⟨rfl, ?_⟩) | intro cap | (with_reducible refine ⟨trivial, ?_⟩) | (guard_target =~ (planChk _ _ = true) ∧ _; refine ⟨by kernel_rfl, ?_⟩) | (guard_target =~ (_ ∧ _) ∧ _; refine ⟨by ((repeat (first | exact trivial | refine ⟨rfl, ?_⟩)); (first | done | fail)), ?_⟩) | refine ⟨by omega, ?_⟩ | refine ⟨szT, ?_⟩ | refine ⟨0, rfl, ?_⟩ | refine ⟨1, rfl, ?_⟩ | refine ⟨2, rfl, ?_⟩ | refine ⟨3, rfl, ?_⟩ | refine ⟨4, rfl, ?_⟩ | refine ⟨5, rfl, ?_⟩ | (refine cell_at1 (by assumption) ?_) | (refine cell_in1 omT (fun x hx => ?_)) | fail)) <;> (try (conv => whnf))
 · (refine Ends.go (_) ?_ [(1, some 1)] (Fit.q cvJrnFind2 (by rfl) (by rfl)))
   exact iff_of_true (Int.natCast_nonneg _) ⟨c, List.mem_of_getElem? hc, hz.1 hb⟩
 · (refine Again.go ((k + 1 : Nat)) ?_ (by (try dsimp only); omega) [(0, some 0), (1, some 1)] (Sub.q cvJrnFind2 (by rfl) (by rfl)))
   refine ⟨by omega, fun x hx => ?_⟩
   rw [List.take_add_one, hc] at hx
   rcases List.mem_append.1 hx with h | h
   · exact hk.2 x h
   · have : x = c := by simpa using h
     rw [this]; intro hh; rw [hz.2 hh] at hb; cases hb
 · (refine Ends.go (_) ?_ [(1, some 1)] (Fit.q cvJrnFind2 (by rfl) (by rfl)))
   refine iff_of_false (by decide) (fun ⟨c, hc, h⟩ => hk.2 c ?_ h)
   rw [List.take_of_length_le (by omega)]; exact hc
theorem contains_c (l : List Pg) (cap : Nat) (n : Int) (hl : l.length < 9223372036854775807) : CallOb Tryz.prog 67 [mslice 0 l.length cap, aboveF 1] [(0, .lview (l.flatMap pgv)), (1, .own 3 [iv n])] 2 (fun v hh m => ∃ z : Bool, (z = true ↔ ∃ p ∈ l, n ≤ p.1) ∧ v = .bool z ∧ hh = [(1, .own 3 [iv n])] ∧ m = 2) := by
 refine call_spec tabOk mixed Tryz.call67 Tryz.func67 rfl [] (fun z : Bool => z = true ↔ ∃ p ∈ l, n ≤ p.1) (fun z => .bool z) (fun _ => [(1, .own 3 [iv n])]) (fun _ => 2) ?_ ?_
 · exact (Nat.le_of_ble_eq_true rfl)
 (repeat' ((try (conv => whnf)); first | (guard_target =~ ∃ (_ : Value), ∃ (_ : HP), ∃ (_ : HP), _; refine ⟨_, _, _, rnJrnFind1, ?_⟩; (try (dsimp only [Nat.reduceAdd, bC, bL]))) | ((guard_target =~ CallOb _ 88 _ _ _ _; refine call_q (index_c l cap n hl) [(0, some 0), (1, some 1)] cvJrnFind2 rfT rfT rfT (fun v h1 n1 hp => ?_); obtain ⟨z, hz, rfl, rfl, rfl⟩ := hp); (try (dsimp only [Nat.reduceAdd, bC, bL]))) | (with_reducible first | refine chk_in (Nat.ble_eq_true_of_le omT) ?_ | (refine ifB_in ?_ ?_ <;> intro hb <;> (try simp only [bN1, bN2, bN3, bN4, bN5, bN6, bN7, bN8, bN9, bN0] at hb) <;> (try (exfalso; omega))) | refine ⟨_, w64b _, ?_⟩ | refine ⟨_, w64 omT omT, ?_⟩ | refine ⟨_, wu64 omT omT, ?_⟩ | refine ⟨_, wu8 omT omT, ?_⟩ | refine ⟨_, w64 szT szT, ?_⟩ | refine ⟨_, rfl, ?_⟩ | refine ⟨rfl, ?_⟩) | intro cap | (with_reducible refine ⟨trivial, ?_⟩) | (guard_target =~ (planChk _ _ = true) ∧ _; refine ⟨by kernel_rfl, ?_⟩) | (guard_target =~ (_ ∧ _) ∧ _; refine ⟨by ((repeat (first | exact trivial | refine ⟨rfl, ?_⟩)); (first | done | fail)), ?_⟩) | refine ⟨by omega, ?_⟩ | refine ⟨szT, ?_⟩ | refine ⟨0, rfl, ?_⟩ | refine ⟨1, rfl, ?_⟩ | refine ⟨2, rfl, ?_⟩ | refine ⟨3, rfl, ?_⟩ | refine ⟨4, rfl, ?_⟩ | refine ⟨5, rfl, ?_⟩ | (refine cell_at1 (by assumption) ?_) | (refine cell_in1 omT (fun x hx => ?_)) | fail)) <;> (try (conv => whnf))
 (refine Ends.go (_) ?_ [(1, some 1)] (Fit.q cvJrnFind2 (by rfl) (by rfl)))
 rw [decide_eq_true_iff]; exact hz
set_option maxRecDepth 100000 in
set_option maxHeartbeats 4000000 in
theorem add_c (F : FM) (c c1 c2 : Nat) (hF : FOk F c) (hc : c ≤ 100000) (h1 : F.sure.length ≤ c1) (h2 : F.loose.length ≤ c2) (k n salt : Int) (d : ByteArray) (hd : d.size = 232) (hn : 0 ≤ n ∧ n ≤ 4294967295) (first : Bool) :
 CallOb Tryz.prog 37 [ptr 0, .agg #[iv k, iv n, .int .u64 salt, .string d], .bool first] (fmH F 1 2 c1 c2) 3 (fun v h m => ∃ x : Bool × FM × Nat × Nat, AddR F c k n salt d first x.1 x.2.1 x.2.2.1 x.2.2.2 ∧ v = .bool x.1 ∧ h = fmH x.2.1 30 31 x.2.2.1 x.2.2.2 ∧ m = 60) := by
 refine call_spec tabOk mixed Tryz.call37 Tryz.func37 rfl [(1, [(0, true), (1, true), (2, true), (3, true), (4, true), (5, true), (6, true), (7, true), (8, true), (9, true), (10, true)]), (6, [(0, true), (1, true), (2, true), (3, true), (4, true), (5, true), (6, true), (7, true), (8, true), (9, true), (10, false), (1011, false), (12, true), (13, true), (1014, false)]), (12, [(0, true), (1, true), (2, true), (3, true), (4, true), (5, true), (6, true), (7, true), (8, true), (9, true), (10, true), (11, true), (12, true), (13, true), (14, true), (15, true), (16, true), (17, true), (18, true), (19, true), (20, true), (21, true), (22, true), (23, true), (24, true), (25, false), (26, true), (27, true), (28, true), (29, true), (30, true), (31, true), (32, true), (33, true), (34, true), (35, true), (36, true), (37, true), (38, true), (39, true), (40, true), (41, true), (42, true), (43, true), (1044, false), (45, true)]), (16, [(0, true), (1, true), (2, true), (3, true), (4, true), (5, true), (6, true), (7, true), (8, true), (9, true), (1010, false), (11, true), (12, true), (1013, false), (14, true), (15, true), (1016, false)])] (fun x : Bool × FM × Nat × Nat => AddR F c k n salt d first x.1 x.2.1 x.2.2.1 x.2.2.2) (fun x => .bool x.1) (fun x => fmH x.2.1 30 31 x.2.2.1 x.2.2.2) (fun _ => 60) ?_ ?_
 · exact (Nat.le_of_ble_eq_true rfl)
 have hpa := hF.pages
 have hfe := hF.feet
 have hle := hF.len
 obtain ⟨m, hm⟩ : ∃ m, m = numOf ((bytesOf d).take 4) := ⟨_, rfl⟩
 have hmb : m < 4294967296 := by rw [hm]; exact numOf4 (List.length_take_le _ _)
 have hun : ∀ w, Calls Tryz.prog 65 #[.string (d.extract 0 4)] w fun e w' => e = .returned (.tuple #[.int .u64 (m : Nat), .int .i64 0]) ∧ Below w.heap.size w w' := fun w => by
  have := c_unfixed (d.extract 0 4) (by rw [ByteArray.size_extract]; omega) w
  rwa [bytes_upto, ← hm] at this
 have hft := footing_c (m : Nat) F.feet (by omega) (by omega)
 have A0 := fun h => addF_salt (F := F) (k := k) (n := n) (salt := salt) (d := d) (first := first) h
 have A1 := fun h0 hk => addF_rec (F := F) (k := k) (n := n) (salt := salt) (d := d) (first := first) h0 hk
 have A2 := fun h0 hk => addF_foot (F := F) (k := k) (n := n) (salt := salt) (d := d) (first := first) h0 hk (m := (m : Nat)) (by rw [hm])
 have A3 := fun h0 h2 h3 => addF_other (F := F) (k := k) (n := n) (salt := salt) (d := d) (first := first) h0 h2 h3
 unfold BadF at A2
 generalize footS (m : Nat) F.feet = ft at *
 have H0 : first = true ∨ salt = F.salt → ¬ (first = false ∧ salt ≠ F.salt) := fun h ⟨e1, e2⟩ => by
  rcases h with h | h
  · rw [e1] at h; cases h
  · exact e2 h
 have KS : FOk { F with salt := salt } (c + 1) := ⟨hF.pages, by dsimp only; omega, by dsimp only; omega⟩
 have KR : FOk { F with salt := salt, loose := F.loose ++ [(n, d)] } (c + 1) := ⟨hF.pages, by dsimp only; omega, by dsimp only; rw [List.length_append, List.length_singleton]; omega⟩
 have KF : ¬ 4096 < (m : Int) → FOk ⟨(m : Nat), F.feet + 1, salt, F.sure ++ F.loose, []⟩ (c + 1) := fun h => ⟨by dsimp only; omega, by dsimp only; omega, by dsimp only; rw [List.length_append, List.length_nil]; omega⟩
 have NO : ∀ F', addF F k n salt d first = none → F'.pages = F.pages → F'.feet = F.feet → F'.sure = F.sure → F'.loose = F.loose → FOk F' (c + 1) → AddR F c k n salt d first false F' c1 c2 := fun F' h e1 e2 e3 e4 h' => ⟨fun e => (by cases e), fun _ => ⟨h, e1, e2, e3⟩, h', by rw [e3]; exact h1, by rw [e4]; exact h2⟩
 (repeat' ((try (conv => whnf)); first | (guard_target =~ ∃ (_ : Value), ∃ (_ : HP), ∃ (_ : HP), _; refine ⟨_, _, _, rnJrnFind1, ?_⟩; (try (dsimp only [Nat.reduceAdd, bC, bL]))) | (guard_target =~ CallOb _ 65 _ _ _ _; (with_reducible refine call_pure Tryz.call65 (hun) ?_ ?_ ?_); exact rfl; exact rfl) | (guard_target =~ CallOb _ 54 _ _ _ _; (with_reducible refine call_pure Tryz.call54 (hft) ?_ ?_ ?_); exact rfl; exact rfl) | (guard_target =~ CallOb _ 67 _ _ _ _; refine call_q (contains_c F.loose c2 (m : Nat) omT) [(0, some 2), (1, some 4)] cvJrnFind2 rfT rfT rfT (fun v h1 n1 hp => ?_); obtain ⟨z, hz, rfl, rfl, rfl⟩ := hp; (try (dsimp only [Nat.reduceAdd, bC, bL]))) | (refine ⟨pgs_len _, ?_⟩) | (refine onS_in all_pgs ?_) | (refine chk_in (one_pgs _) ?_) | (with_reducible first | refine chk_in (Nat.ble_eq_true_of_le omT) ?_ | (refine ifB_in ?_ ?_ <;> intro hb <;> (try simp only [bN1, bN2, bN3, bN4, bN5, bN6, bN7, bN8, bN9, bN0] at hb) <;> (try (exfalso; omega))) | refine ⟨_, w64b _, ?_⟩ | refine ⟨_, w64 omT omT, ?_⟩ | refine ⟨_, wu64 omT omT, ?_⟩ | refine ⟨_, wu8 omT omT, ?_⟩ | refine ⟨_, w64 szT szT, ?_⟩ | refine ⟨_, rfl, ?_⟩ | refine ⟨rfl, ?_⟩) | intro cap | (with_reducible refine ⟨trivial, ?_⟩) | (guard_target =~ (planChk _ _ = true) ∧ _; refine ⟨by kernel_rfl, ?_⟩) | (guard_target =~ (_ ∧ _) ∧ _; refine ⟨by ((repeat (first | exact trivial | refine ⟨rfl, ?_⟩)); (first | done | fail)), ?_⟩) | refine ⟨by omega, ?_⟩ | refine ⟨szT, ?_⟩ | refine ⟨0, rfl, ?_⟩ | refine ⟨1, rfl, ?_⟩ | refine ⟨2, rfl, ?_⟩ | refine ⟨3, rfl, ?_⟩ | refine ⟨4, rfl, ?_⟩ | refine ⟨5, rfl, ?_⟩ | (refine cell_at1 (by assumption) ?_) | (refine cell_in1 omT (fun x hx => ?_)) | fail)) <;> (try (conv => whnf))
 all_goals first
  | (guard_hyp hb : ¬ salt = F.salt; (refine Ends.go ((false, F, c1, c2)) ?_ [(0, some 0), (30, some 1), (31, some 2)] (Fit.q cvJrnFind2 (by rfl) (by rfl))); exact NO F (A0 ⟨‹first = false›, hb⟩) rfl rfl rfl rfl ⟨hF.pages, by omega, by omega⟩)
  | (guard_hyp hb : k = 2; (refine Ends.go ((decide (n < 4096), { F with salt := salt, loose := F.loose ++ [(n, d)] }, c1, _)) ?_ [(0, some 0), (30, some 1), (31, some _)] (Fit.q cvJrnFind2 (by rfl) (by rfl))); refine ⟨fun h => (A1 (H0 ?_) hb).1 (of_decide_eq_true h), fun h => ⟨(A1 (H0 ?_) hb).2 (of_decide_eq_false h), rfl, rfl, rfl⟩, KR, h1, ?_⟩; (first | exact .inl ‹first = true› | exact .inr ‹salt = F.salt›); (first | exact .inl ‹first = true› | exact .inr ‹salt = F.salt›); (dsimp only; rw [List.length_append]; assumption))
  | (guard_hyp hb : z = false; (refine Ends.go ((true, ⟨(m : Nat), F.feet + 1, salt, F.sure ++ F.loose, []⟩, _, 0)) ?_ [(0, some 0), (30, some 7), (31, none)] (Fit.q cvJrnFind2 (by rfl) (by rfl))); refine ⟨fun _ => (A2 (H0 ?_) ‹k = 3›).2 ?_, fun h => (by cases h), KF (by omega), ?_, Nat.le_refl _⟩; (first | exact .inl ‹first = true› | exact .inr ‹salt = F.salt›); (rintro (h | ⟨h, h'⟩ | h | h | h); (omega); (first | (exact h' ‹(m : Int) = F.pages›) | omega); (exact h (strEq_is ‹strEq d ft = true›)); (exact h ‹n = ↑F.loose.length›); (have hh := hz.2 h; rw [hb] at hh; cases hh)); (dsimp only; rw [List.length_append]; assumption))
  | (guard_hyp hb : ¬ k = 3; (refine Ends.go ((false, { F with salt := salt }, c1, c2)) ?_ [(0, some 0), (30, some 1), (31, some 2)] (Fit.q cvJrnFind2 (by rfl) (by rfl))); refine NO _ (A3 (H0 ?_) ‹¬ k = 2› hb) rfl rfl rfl rfl KS; (first | exact .inl ‹first = true› | exact .inr ‹salt = F.salt›))
  | ((refine Ends.go ((false, { F with salt := salt }, c1, c2)) ?_ [(0, some 0), (30, some 1), (31, some 2)] (Fit.q cvJrnFind2 (by rfl) (by rfl))); refine NO _ ((A2 (H0 ?_) ‹k = 3›).1 ?_) rfl rfl rfl rfl KS; (first | exact .inl ‹first = true› | exact .inr ‹salt = F.salt›); (first | exact .inl ‹4096 < (m : Int)› | exact .inr (.inl ⟨‹0 < F.feet›, ‹¬ (m : Int) = F.pages›⟩) | exact .inr (.inr (.inl (strEq_ne ‹strEq d ft = false›))) | exact .inr (.inr (.inr (.inl ‹¬ n = ↑F.loose.length›))) | exact .inr (.inr (.inr (.inr (hz.1 hb))))))
  | trace_state
theorem open_vals (s : ByteArray) : ∃ (k n st e : Int) (d : ByteArray), openV s = .agg #[.int .i64 k, .int .i64 n, .int .u64 st, .string d] ∧ openE s = e ∧ (e = 0 → k = (kindAt (bytesOf s) : Nat) ∧ n = (numberAt (bytesOf s) : Nat) ∧ st = (saltAt (bytesOf s) : Nat) ∧ d = s.extract 0 232 ∧ d.size = 232) ∧ (0 ≤ n ∧ n ≤ 4294967295) := by
 unfold openV openE
 by_cases h : isSeal (bytesOf s) = true
 · rw [if_pos h, if_pos h]
   refine ⟨_, _, _, _, _, rfl, rfl, fun _ => ⟨rfl, rfl, rfl, rfl, ?_⟩, by have := numberAt_lt (bytesOf s); omega⟩
   have := (isSeal_iff.1 h).1
   rw [bytesOf_length] at this
   rw [ByteArray.size_extract]
   omega
 · rw [if_neg h, if_neg h]
   refine ⟨_, _, _, _, _, rfl, rfl, fun e => ?_, by decide⟩
   split at e <;> cases e
noncomputable def foundJ (D : DM) : (Int × Int × List Pg × Bool) × DM :=
 if (findJ D).1.1 ≠ 0 then (((findJ D).1.1, 0, [], false), (findJ D).2) else ((0, (findJ D).1.2.pages, (findJ D).1.2.sure, decide (0 < (findJ D).1.2.feet)), (findJ D).2)
theorem find_err {m i : Nat} {F : FM} {D D' : DM} {s : ByteArray} {e : Int} (hr : ((s, e), D') = readD D jnN (i : Nat)) (h0 : ¬ e = 0) (h1 : ¬ e = 13) : findL (m + 1) i F D = ((e, F), D') := by
 unfold findL
 dsimp only
 rw [← hr]
 dsimp only
 rw [if_pos ⟨h0, h1⟩]
theorem find_stop {m i : Nat} {F : FM} {D D' : DM} {s : ByteArray} {e : Int} (hr : ((s, e), D') = readD D jnN (i : Nat)) (h0 : ¬ (e ≠ 0 ∧ e ≠ 13)) (hs : stepF F s (decide (i = 0)) = none) : findL (m + 1) i F D = ((0, F), D') := by
 unfold findL
 dsimp only
 rw [← hr]
 dsimp only
 rw [if_neg h0, hs]
theorem find_go {m i : Nat} {F F' : FM} {D D' : DM} {s : ByteArray} {e : Int} (hr : ((s, e), D') = readD D jnN (i : Nat)) (h0 : ¬ (e ≠ 0 ∧ e ≠ 13)) (hs : stepF F s (decide (i = 0)) = some F') : findL (m + 1) i F D = findL m (i + 1) F' D' := by
 conv => lhs; unfold findL
 dsimp only
 rw [← hr]
 dsimp only
 rw [if_neg h0, hs]
theorem step_none {F : FM} {s : ByteArray} {b : Bool} (h : ¬ openE s = 0) : stepF F s b = none := by unfold stepF; rw [if_neg h]
theorem step_add {F : FM} {s : ByteArray} {b : Bool} {k n st : Int} {d : ByteArray} (h : openE s = 0) (h1 : k = (kindAt (bytesOf s) : Nat) ∧ n = (numberAt (bytesOf s) : Nat) ∧ st = (saltAt (bytesOf s) : Nat) ∧ d = s.extract 0 232 ∧ d.size = 232) : stepF F s b = addF F k n st d b := by
 obtain ⟨rfl, rfl, rfl, rfl, _⟩ := h1
 unfold stepF
 rw [if_pos h]
theorem find_zero {i : Nat} {F : FM} {D : DM} : findL 0 i F D = ((0, F), D) := by unfold findL; rfl
theorem dec_zero {i : Nat} : decide (((i : Nat) : Int) = 0) = decide (i = 0) := by
 rcases Nat.eq_zero_or_pos i with h | h
 · subst h; rfl
 · rw [decide_eq_false (by omega), decide_eq_false (by omega)]
structure KF where
 i : Nat
 F : FM
 D : DM
 S : Nat → Prop
 c1 : Nat
 c2 : Nat
structure KFR (D0 : DM) (N : Int) (sz : Nat) (k : KF) : Prop where
 le : k.i ≤ sz
 run : findL (sz - k.i) k.i k.F k.D = findJ D0
 ok : k.D.OkN (N + k.i)
 F : FOk k.F k.i
 c1 : k.F.sure.length ≤ k.c1
 c2 : k.F.loose.length ≤ k.c2
theorem KFR.run1 {D0 : DM} {N : Int} {sz : Nat} {k : KF} (h : KFR D0 N sz k) (hi : k.i < sz) : ∃ m, sz - k.i = m + 1 ∧ sz - (k.i + 1) = m ∧ findL (m + 1) k.i k.F k.D = findJ D0 := by
 refine ⟨sz - (k.i + 1), by omega, rfl, ?_⟩
 rw [show sz - (k.i + 1) + 1 = sz - k.i by omega]
 exact h.run
theorem found_of {D0 D' : DM} {F : FM} (h : ((0, F), D') = findJ D0) : ((0, F.pages, F.sure, decide (0 < F.feet)), D') = foundJ D0 := by
 unfold foundJ; rw [← h]; rfl
theorem found_err {D0 D' : DM} {F : FM} {e : Int} (h : ((e, F), D') = findJ D0) (he : ¬ e = 0) : ((e, 0, [], false), D') = foundJ D0 := by
 unfold foundJ; rw [← h, if_pos he]
attribute [local irreducible] findJ foundJ openE openV
set_option maxRecDepth 100000 in
set_option maxHeartbeats 4000000 in
theorem find_c (S : Nat → Prop) (D : DM) {N : Int} (hD : D.OkN N) (hN : N ≤ 900000) :
 CallOb Tryz.prog 11 [ptr 0] [(0, diskI S D)] 1 (fun v h m => ∃ x : (Int × Int × List Pg × Bool) × DM × (Nat → Prop) × Nat, ((x.1, x.2.1) = foundJ D ∧ x.1.2.2.1.length ≤ x.2.2.2) ∧ v = .tuple #[iv x.1.2.1, mslice 60 x.1.2.2.1.length x.2.2.2, .bool x.1.2.2.2, iv x.1.1] ∧ h = [(0, diskI x.2.2.1 x.2.1), (60, .lst 51 2 x.2.2.2 (x.1.2.2.1.flatMap pgv))] ∧ m = 80) := by
 refine call_spec tabOk mixed Tryz.call11 Tryz.func11 rfl [(13, [(0, true), (1, true), (2, true), (3, true), (4, true), (5, true), (6, true), (7, true), (8, true), (9, true), (10, true), (11, true), (12, true), (13, true), (14, true), (15, true), (16, true)])] (fun x : (Int × Int × List Pg × Bool) × DM × (Nat → Prop) × Nat => (x.1, x.2.1) = foundJ D ∧ x.1.2.2.1.length ≤ x.2.2.2) (fun x => .tuple #[iv x.1.2.1, mslice 60 x.1.2.2.1.length x.2.2.2, .bool x.1.2.2.2, iv x.1.1]) (fun x => [(0, diskI x.2.2.1 x.2.1), (60, .lst 51 2 x.2.2.2 (x.1.2.2.1.flatMap pgv))]) (fun _ => 80) ?_ ?_
 · exact (Nat.le_of_ble_eq_true rfl)
 obtain ⟨zz, hz0⟩ : ∃ zz : Nat, zz = (max (sizeD D jnN) 0).toNat := ⟨_, rfl⟩
 have hzz : ∀ sz : Int, sz = sizeD D jnN → ((zz : Nat) : Int) = max sz 0 := fun sz h => by rw [hz0, h]; omega
 have hzb : zz ≤ 16384 := by have := sizeD_bound (up_ok hD (by omega)) jnN; rw [hz0]; omega
 have hrun0 : findL (zz - 0) 0 fm0 D = findJ D := by rw [hz0]; unfold findJ; rfl
 (repeat' ((try (conv => whnf)); first | (guard_target =~ ∃ (_ : Value), ∃ (_ : HP), ∃ (_ : HP), _; refine ⟨_, _, _, rnJrnFind1, ?_⟩; (try (dsimp only [Nat.reduceAdd, bC, bL]))) | (guard_target =~ CallOb _ 18 _ _ _ _; refine call_q (size_k S D (up_ok hD omT) jnN) [(0, some 0)] cvJrnFind2 rfT rfT rfT (fun v h1 n1 hp => ?_); obtain ⟨sz, S, hsz, rfl, rfl, rfl⟩ := hp; (try (dsimp only [Nat.reduceAdd, bC, bL]))) | (guard_target =~ ∃ r, r = max _ _ ∧ _; refine ⟨(zz : Nat), hzz sz hsz, ?_⟩) | (guard_target =~ LoopOb _ _ _ _ _ _ _ _; refine loop_rule tabOk mixed [(13, [(0, true), (1, true), (2, true), (3, true), (4, true), (5, true), (6, true), (7, true), (8, true), (9, true), (10, true), (11, true), (12, true), (13, true), (14, true), (15, true), (16, true)])] 4 (fun k : KF => [(0, ptr 0), (6, ptr 1), (17, iv (zz : Nat)), (18, iv (k.i : Nat))]) (fun k => [(0, diskI k.S k.D), (1, .own 81 (fmv k.F 2 3 k.c1 k.c2)), (2, .lst 51 2 k.c1 (k.F.sure.flatMap pgv)), (3, .lst 51 2 k.c2 (k.F.loose.flatMap pgv))]) (fun k => zz - k.i) (fun k => KFR D N zz k) ⟨0, ⟨0, 0, 0, [], []⟩, D, S, 0, 0⟩ ⟨Nat.zero_le _, hrun0, hD.mono (by dsimp only; omega), FOk.start, Nat.le_refl _, Nat.le_refl _⟩ ⟨[(0, some 0), (1, some 1), (2, none), (3, none)], Sub.q cvJrnFind2 (by rfl) (by rfl)⟩ (fun k hk => ?_)) | (guard_hyp k : KF; have hk2 := hk; rcases k with ⟨i, F, D1, S1, c1, c2⟩; dsimp only at hk hk2 ⊢; have hki := hk.le; have hok := hk.ok; have hFO := hk.F; have hC1 := hk.c1; have hC2 := hk.c2; dsimp only at hki hok hFO hC1 hC2) | (guard_target =~ CallOb _ 35 _ _ _ _; refine call_q (read_c S1 D1 (up_ok hok omT) jnN (i : Nat) omT) [(0, some 0)] cvJrnFind2 rfT rfT rfT (fun v h1 n1 hp => ?_); obtain ⟨⟨sr, er⟩, D2, S2, hr, rfl, rfl, rfl⟩ := hp; have hok2 := read_okN hok jnN ((i : Nat) : Int); rw [← hr] at hok2; dsimp only at hok2; obtain ⟨m, hm1, hm2, hm3⟩ := hk.run1 (by dsimp only; omega); dsimp only at hm1 hm2 hm3; obtain ⟨ok, on, os, oe, od, ho1, ho2, ho3, ho4⟩ := open_vals sr; have hop := fun w => open_any sr w; rw [ho1, ho2] at hop; (try (dsimp only [Nat.reduceAdd, bC, bL]))) | (guard_target =~ CallOb _ 36 _ _ _ _; (with_reducible refine call_pure Tryz.call36 (hop) ?_ ?_ ?_); exact rfl; exact rfl) | (guard_target =~ CallOb _ 37 _ _ _ _; have ho5 := ho3 ‹oe = 0›; refine call_q (add_c F i c1 c2 hFO omT hC1 hC2 ok on os od ho5.2.2.2.2 ho4 (decide (((i : Nat) : Int) = 0))) [(0, some 1), (1, some 2), (2, some 3)] cvJrnFind2 rfT rfT rfT (fun v h1 n1 hp => ?_); obtain ⟨⟨ba, F', d1, d2⟩, ha, rfl, rfl, rfl⟩ := hp; dsimp only at ha; rw [dec_zero] at ha; (try (dsimp only [Nat.reduceAdd, bC, bL]))) | (with_reducible first | refine chk_in (Nat.ble_eq_true_of_le omT) ?_ | (refine ifB_in ?_ ?_ <;> intro hb <;> (try simp only [bN1, bN2, bN3, bN4, bN5, bN6, bN7, bN8, bN9, bN0] at hb) <;> (try (exfalso; omega))) | refine ⟨_, w64b _, ?_⟩ | refine ⟨_, w64 omT omT, ?_⟩ | refine ⟨_, wu64 omT omT, ?_⟩ | refine ⟨_, wu8 omT omT, ?_⟩ | refine ⟨_, w64 szT szT, ?_⟩ | refine ⟨_, rfl, ?_⟩ | refine ⟨rfl, ?_⟩) | intro cap | (with_reducible refine ⟨trivial, ?_⟩) | (guard_target =~ (planChk _ _ = true) ∧ _; refine ⟨by kernel_rfl, ?_⟩) | (guard_target =~ (_ ∧ _) ∧ _; refine ⟨by ((repeat (first | exact trivial | refine ⟨rfl, ?_⟩)); (first | done | fail)), ?_⟩) | refine ⟨by omega, ?_⟩ | refine ⟨szT, ?_⟩ | refine ⟨0, rfl, ?_⟩ | refine ⟨1, rfl, ?_⟩ | refine ⟨2, rfl, ?_⟩ | refine ⟨3, rfl, ?_⟩ | refine ⟨4, rfl, ?_⟩ | refine ⟨5, rfl, ?_⟩ | (refine cell_at1 (by assumption) ?_) | (refine cell_in1 omT (fun x hx => ?_)) | fail)) <;> (try (conv => whnf))
 all_goals first
  | (guard_hyp hb : ¬ er = 13; (refine Ends.go (((er, 0, [], false), D2, S2, 0)) ?_ [(0, some 0), (60, none)] (Fit.q cvJrnFind2 (by rfl) (by rfl))); exact ⟨found_err ((find_err hr ‹¬ er = 0› hb).symm.trans hm3) ‹¬ er = 0›, Nat.le_refl _⟩)
  | (guard_hyp hb : ¬ oe = 0; (refine Ends.go (((0, F.pages, F.sure, decide (0 < F.feet)), D2, S2, c1)) ?_ [(0, some 0), (60, some 2)] (Fit.q cvJrnFind2 (by rfl) (by rfl))); exact ⟨found_of ((find_stop hr (by omega) (step_none (by rw [ho2]; exact hb))).symm.trans hm3), hC1⟩)
  | (guard_hyp hb : ba = true; have ho5 := ho3 ‹oe = 0›; (refine Again.go ((⟨i + 1, F', D2, S2, d1, d2⟩ : KF)) ?_ (by (try dsimp only); omega) [(0, some 0), (1, some 1), (2, some _), (3, some _)] (Sub.q cvJrnFind2 (by rfl) (by rfl))); exact ⟨by dsimp only; omega, by dsimp only; rw [hm2]; exact (find_go hr (by omega) ((step_add (ho2.trans ‹oe = 0›) ho5).trans (ha.yes hb))).symm.trans hm3, hok2.mono (by dsimp only; omega), ha.ok, ha.c1, ha.c2⟩)
  | (guard_hyp hb : ba = false; have ho5 := ho3 ‹oe = 0›; have hno := ha.no hb; (refine Ends.go (((0, F'.pages, F'.sure, decide (0 < F'.feet)), D2, S2, d1)) ?_ [(0, some 0), (60, some _)] (Fit.q cvJrnFind2 (by rfl) (by rfl))); refine ⟨?_, ha.c1⟩; dsimp only; rw [hno.2.1, hno.2.2.1, hno.2.2.2]; exact found_of ((find_stop hr (by omega) ((step_add (ho2.trans ‹oe = 0›) ho5).trans hno.1)).symm.trans hm3))
  | ((refine Ends.go (((0, F.pages, F.sure, decide (0 < F.feet)), D1, S1, c1)) ?_ [(0, some 0), (60, some 2)] (Fit.q cvJrnFind2 (by rfl) (by rfl))); refine ⟨found_of ?_, hC1⟩; have hq := hk.run; dsimp only at hq; rw [show zz - i = 0 by omega, find_zero] at hq; exact hq)
  | skip
end Go.Proofs.YtelolcagncgfpaaGreat
namespace Go.Proofs.YtelolcagncgfpaaGreat
open Go.RowKit
set_option linter.unusedSimpArgs false
set_option linter.unusedVariables false
structure Pge (n : Nat) (b : UInt8) (L : List UInt8) (i : Nat) : Prop where
 len : L.length = n
 at' : ∀ j, j < i → L[j]? = some b
theorem Pge.set {n : Nat} {b : UInt8} {L : List UInt8} {i : Nat} (h : Pge n b L i) (hi : i < n) : Pge n b (L.set i b) (i + 1) := by
 refine ⟨by rw [List.length_set]; exact h.len, fun j hj => ?_⟩
 rw [List.getElem?_set]
 split
 · rename_i e; subst e; rw [if_pos (by rw [h.len]; exact hi)]
 · exact h.at' j (by omega)
theorem Pge.done {n : Nat} {b : UInt8} {L : List UInt8} {i : Nat} (h : Pge n b L i) (hi : n ≤ i) : L = List.replicate n b := by
 apply List.ext_getElem?
 intro j
 rcases Nat.lt_or_ge j n with hj | hj
 · rw [h.at' j (by omega), List.getElem?_replicate, if_pos hj]
 · rw [List.getElem?_eq_none (by rw [h.len]; exact hj), List.getElem?_eq_none (by rw [List.length_replicate]; exact hj)]
theorem put_byte {L : List UInt8} {i : Nat} {b : UInt8} {x : Int} (hx : x = (b.toNat : Nat)) : putL (L.map byteV') (0 + i * 1) [.int .u8 x] = (L.set i b).map byteV' := by
 subst hx
 rw [List.map_set, Nat.zero_add, Nat.mul_one]; rfl
theorem row_take {L : List UInt8} {n ty c : Nat} (h : L.length = n) : List.take n (List.drop 0 (Itm.row ty 1 c (L.map byteV')).cells) = L.map byteV' := by
 rw [List.drop_zero]; exact List.take_of_length_le (by show (L.map byteV').length ≤ n; rw [List.length_map]; omega)
theorem u8_int {b : Int} (hb : 0 ≤ b ∧ b ≤ 255) : b = ((UInt8.ofNat b.toNat).toNat : Nat) := by rw [UInt8.toNat_ofNat']; omega
structure WL where
 i : Nat
 L : List UInt8
theorem blt_len {α : Type} {L : List α} {f : α → Value} {i ty sz c : Nat} (h : i < L.length) : (0 + i * 1).blt (Itm.row ty sz c (L.map f)).cells.length = true := by
 rw [Nat.zero_add, Nat.mul_one]
 show Nat.ble (i + 1) (L.map f).length = true
 exact Nat.ble_eq_true_of_le (by rw [List.length_map]; exact h)
def eqPg (s : Int) (d : ByteArray) (s' : Int) (d' : ByteArray) : Bool := decide (s = s') && strEq d d'
theorem eqPg_self (s : Int) (d : ByteArray) : eqPg s d s d = true := by simp [eqPg, strEq_self]
theorem eqIn_pg (k : Nat) (s : Int) (d : ByteArray) (s' : Int) (d' : ByteArray) (w : World) : (Op.equalIn (k + 2) 51 (.agg #[iv s, .string d]) (.agg #[iv s', .string d'])).run Tryz.prog w = .ok (eqPg s d s' d') w := by
 rw [run_equalIn_struct w (k + 1) 51 _ _ (by kernel_rfl) Tryz.stoodInHeld51]
 simp [Op.eqFields, go_sem, eqPg, strEq, bytesOf, ByteArray.toList_eq]
 (repeat' split) <;> simp_all
theorem ob_pg (s : Int) (d : ByteArray) (s' : Int) (d' : ByteArray) : EqOb Tryz.prog 51 (.agg #[iv s, .string d]) (.agg #[iv s', .string d']) (eqPg s d s' d') where
 fx := rfl
 fy := rfl
 eql w x y := by
  unfold binRun
  rw [Sem.run_bind, run_eqGuard_agg (hm := Tryz.eqGuardType51), Result.andThen_ok, run_eql_struct, eqIn_pg 9998]; rfl
 neq w x y := by
  unfold binRun
  rw [Sem.run_bind, run_eqGuard_agg (hm := Tryz.eqGuardType51), Result.andThen_ok, run_neq_struct, eqIn_pg 9998]; rfl
theorem JrR.jok {J : JM} {D : DM} {all : List Pg} {sure c : Nat} {n : Int} (h : JrR J D all sure c n) (hc : c ≤ 1000) : JOk J :=
 ⟨h.pages, h.salt, by have := h.few; have := h.feet; rw [h.loose]; omega, by have := h.few; have := h.feet; omega⟩
theorem end_step {J : JM} {D D' : DM} {all : List Pg} {sure c : Nat} {n m : Int} (h : JrR J D all sure c n) (hz : 0 < J.feet) (hf : D'.fs = D.fs) (up : UpD D' m) : (gonJ D').1 = 0 ∧ sizeD (gonJ D').2 jnN = -1 ∧ UpD (gonJ D').2 (m + 1) := by
 rcases h.file with ⟨_, _, h3⟩ | ⟨x, h1, h2, h3, h4⟩
 · omega
 · have h5 : D'.fs = [(jnN, x)] := hf.trans h1
   have hd := drop_okN up.ok jnN
   obtain ⟨k, fs⟩ := D'
   dsimp only at h5
   subst h5
   have hfind : findF [(jnN, x)] jnN = some x := by rw [find_cons, if_pos rfl]
   have e : gonJ ⟨k, [(jnN, x)]⟩ = dropD ⟨k, [(jnN, x)]⟩ jnN := by
    unfold gonJ
    rw [if_neg]
    unfold sizeD
    rw [hfind]
    dsimp only
    omega
   have e2 : dropD ⟨k, [(jnN, x)]⟩ jnN = (0, ⟨{ k with ops := k.ops + 1 }, delF [(jnN, x)] jnN⟩) := by
    unfold dropD
    rw [found_up jn_good up.down up.at0 hfind]
    rfl
   rw [e]
   rw [e2] at hd ⊢
   refine ⟨rfl, ?_, hd, up.down, up.at0⟩
   unfold sizeD
   dsimp only
   rw [find_del, if_pos rfl]
theorem found_step {J : JM} {D : DM} {all : List Pg} {sure c : Nat} {n : Int} (h : JrR J D all sure c n) : ∃ D', foundJ D = ((0, (if J.feet = 0 then 0 else J.pages), all.take sure, decide (0 < J.feet)), D') ∧ D'.fs = D.fs ∧ UpD D' (n + c) := by
 obtain ⟨F, h1, h2, h3, h4, h5, h6⟩ := find_step h
 refine ⟨(findJ D).2, ?_, h2, h3⟩
 unfold foundJ
 rw [h1, if_neg (by simp), ← h4, ← h5, ← h6]
theorem JrR.start0 {D : DM} (h : D = newD 100) : JrR ⟨3, 7, [], 0, 0⟩ D [] 0 0 0 := by
 subst h
 exact JrR.start ⟨new_okN 100, rfl, rfl⟩ rfl (by show (100 : Int) ≤ clampR 100; decide) (by decide) ⟨by decide, by decide⟩
theorem size_new {D : DM} {a : Int} (h : D = newD a) : sizeD D jnN < 0 := by subst h; show (-1 : Int) < 0; decide
theorem note_feet (J : JM) (D : DM) (q : Int) (d : ByteArray) : (noteJ J D q d).2.1.feet = J.feet := by
 unfold noteJ
 split
 · rfl
 · split
   · rfl
   · split <;> rfl
theorem seal_feet {J : JM} {D : DM} (h0 : (sealJ J D).1 = 0) (hl : 0 < J.loose) : (sealJ J D).2.1.feet = J.feet + 1 := by
 unfold sealJ at h0 ⊢
 rw [if_neg (by omega)] at h0 ⊢
 dsimp only at h0 ⊢
 split
 · rename_i h; rw [if_pos h] at h0; exact absurd h0 h
 · rename_i h; rw [if_neg h] at h0
   split
   · rename_i h1; rw [if_pos h1] at h0; exact absurd h0 h1
   · rename_i h1; rw [if_neg h1] at h0
     split
     · rename_i h2; rw [if_pos h2] at h0; exact absurd h0 h2
     · rfl
theorem size_sealed {J : JM} {D D' : DM} {all : List Pg} {sure c : Nat} {n : Int} (h : JrR J D all sure c n) (hz : 0 < J.feet) (hf : D'.fs = D.fs) : sizeD D' jnN = all.length + J.feet := by
 have h1 := h.size
 rw [if_neg (fun e => by rcases h.file with ⟨_, _, h3⟩ | ⟨x, h3, _⟩; · omega
                         · rw [e] at h3; cases h3)] at h1
 rw [← h1]
 unfold sizeD
 rw [hf]
attribute [local irreducible] numOf fixedL bytesOf strOf strEq strLt sfrom closeS closeE layD footS writeD sizeD syncD dropD readD bytesD noteJ sealJ gonJ findJ foundJ pgS newD fullS eqPg
theorem tail_size {a : ByteArray} (h : a.size = 232) : (⟨#[98]⟩ ++ sfrom a 1 : ByteArray).size = 232 := by
 rw [ByteArray.size_append, size_sfrom, h]; rfl
theorem cvJrnFind3 {p : Prop} (h : p := by have nw := True.intro; (repeat' (first | exact True.intro | (with_reducible exact rfl) | (with_reducible exact AbsLe.refl) | (guard_target =~ @Eq Nat _ _; first | exact rfl | omega) | (guard_target =~ List.map _ _ = []; exact rfl) | (first | (guard_target =~ @Eq (List Value) _ _; exact rfl) | (guard_target =~ @Eq Nat _ _; dsimp only; exact (List.length_append).symm) | (guard_target =~ @Eq Nat _ _; dsimp only; rw [List.length_append]; rfl) | exact covL_of (noughts_cells _) (flat_map (fun _ => rfl) _) | exact covL_of (put_byte (u8_int hb8)) (flat_map (fun _ => rfl) _) | exact covL_of (app_flat rfl) (flat_bind (f := pgv) (fun _ => rfl) _) | exact covL_of rfl (flat_bind (f := pgv) (fun _ => rfl) _) | exact covL_of rfl (flat_map (fun _ => rfl) _) | first | exact covL_still rfl hvs | exact covL_still rfl (still_map (fun _ => rfl) _) | exact covL_still rfl (still_map ro_still _) | (apply covL_set <;> (try clear nw) <;> have nw := True.intro) | exact congrArg (Value.int _) (by (try dsimp only); omega)) | (exact congrArg (Value.int _) (by omega)) | (exact covL_flat (flat_map (fun _ => rfl) _)) | (exact covL_flat flat_nil) | (refine covP_all ?_; (try clear nw); have nw := True.intro) | (refine covL_each ?_; (try clear nw); have nw := True.intro) | (refine ⟨?_, ?_⟩ <;> (try clear nw) <;> have nw := True.intro) | (guard_hyp nw : True; ((conv => whnf) <;> clear nw)))); (first | done | fail)) : p := h
set_option maxRecDepth 100000 in
set_option maxHeartbeats 4000000 in
theorem awakeJ_c : CallOb Tryz.prog 4 [] [] 0 (fun v hh m => ∃ z : Bool, z = true ∧ v = .bool z ∧ hh = [] ∧ m = 0) := by
 refine call_spec tabOk mixed Tryz.call4 Tryz.func4 rfl [] (fun z : Bool => z = true) (fun z => .bool z) (fun _ => []) (fun _ => 0) ?_ ?_
 · exact (Nat.le_of_ble_eq_true rfl)
 have hful := fun w => full_any ⟨#[97]⟩ w (by decide)
 obtain ⟨a, hae⟩ : ∃ a, a = fullS ⟨#[97]⟩ := ⟨_, rfl⟩
 have ha : a.size = 232 := by rw [hae, fullS_size]
 rw [← hae] at hful
 clear hae
 (repeat' ((try (conv => whnf)); first | (guard_target =~ ∃ (_ : Value), ∃ (_ : HP), ∃ (_ : HP), _; refine ⟨_, _, _, rnJrnFind1, ?_⟩; (try (dsimp only [Nat.reduceAdd, bC, bL]))) | (guard_target =~ CallOb _ 7 _ _ _ _; refine call_q (new_c 100 (by decide)) [] cvJrnFind3 rfT rfT rfT (fun v h1 n1 hp => ?_); obtain ⟨D0, S0, hD0, rfl, rfl, rfl⟩ := hp; have R0 := JrR.start0 hD0; have hz0 := size_new hD0; clear hD0; (try (dsimp only [Nat.reduceAdd, bC, bL]))) | (guard_target =~ CallOb _ 20 _ _ _ _; guard_hyp hs5 : sizeD D5 jnN = 3; refine call_q (start_no S5 D5 (up_ok hF3.ok (by decide)) 3 7 (by decide) omT) [(0, some 0)] cvJrnFind3 rfT rfT rfT (fun v h1 n1 hp => ?_); obtain ⟨⟨em, S5⟩, hem, rfl, rfl, rfl⟩ := hp; dsimp only at hem; (try (dsimp only [Nat.reduceAdd, bC, bL]))) | (guard_target =~ CallOb _ 20 _ _ _ _; refine call_q (start_ok S0 D0 (up_ok R0.up.ok (by decide)) 3 7 (by decide) hz0) [(0, some 0)] cvJrnFind3 rfT rfT rfT (fun v h1 n1 hp => ?_); obtain ⟨⟨es, S0⟩, hes, rfl, rfl, rfl⟩ := hp; dsimp only at hes; (try (dsimp only [Nat.reduceAdd, bC, bL]))) | (guard_target =~ CallOb _ 5 _ _ _ _; (with_reducible refine call_pure Tryz.call5 (hful) ?_ ?_ ?_); exact rfl; exact rfl) | (guard_target =~ CallOb _ 21 _ _ _ _; guard_hyp hm2 : 1 ∈ J2.noted; refine call_q (note_c J2 S2 D2 R2.up.ok (by decide) (R2.jok (by decide)) 2 a) [(0, some 30), (1, some 0), (2, some 31)] cvJrnFind3 rfT rfT rfT (fun v h1 n1 hp => ?_); obtain ⟨⟨e3, J3, D3, S3⟩, hr3, rfl, rfl, rfl⟩ := hp; dsimp only at hr3; obtain ⟨he3, hm3, hp3, _, hq3⟩ := note_step R2 (by decide) (q := 2) (by rw [hp2, hp1]; decide) ha; rw [← hr3] at he3 hm3 hp3 hq3; have R3 := hq3 (by rw [R2.noted]; simp); have hg3 := note_feet J2 D2 2 a; rw [← hr3] at hg3; clear hq3 hr3; dsimp only at hg3; dsimp only at he3 hm3 hp3 R3; (try (dsimp only [Nat.reduceAdd, bC, bL]))) | (guard_target =~ CallOb _ 21 _ _ _ _; guard_hyp hm1 : 1 ∈ J1.noted; refine call_q (note_c J1 S1 D1 R1.up.ok (by decide) (R1.jok (by decide)) 1 (⟨#[98]⟩ ++ sfrom a 1)) [(0, some 30), (1, some 0), (2, some 31)] cvJrnFind3 rfT rfT rfT (fun v h1 n1 hp => ?_); obtain ⟨⟨e2, J2, D2, S2⟩, hr2, rfl, rfl, rfl⟩ := hp; dsimp only at hr2; obtain ⟨he2, hm2, hp2, hq2, _⟩ := note_step R1 (by decide) (q := 1) (by rw [hp1]; decide) (tail_size ha); rw [← hr2] at he2 hm2 hp2 hq2; have R2 := hq2 hm1; have hg2 := note_feet J1 D1 1 (⟨#[98]⟩ ++ sfrom a 1); rw [← hr2] at hg2; clear hq2 hr2; dsimp only at hg2; dsimp only at he2 hm2 hp2 R2; (try (dsimp only [Nat.reduceAdd, bC, bL]))) | (guard_target =~ CallOb _ 21 _ _ _ _; refine call_q (note_c ⟨3, 7, [], 0, 0⟩ S0 D0 R0.up.ok (by decide) (R0.jok (by decide)) 1 a) [(0, some 30), (1, some 0), (2, some 31)] cvJrnFind3 rfT rfT rfT (fun v h1 n1 hp => ?_); obtain ⟨⟨e1, J1, D1, S1⟩, hr1, rfl, rfl, rfl⟩ := hp; dsimp only at hr1; obtain ⟨he1, hm1, hp1, _, hq1⟩ := note_step R0 (by decide) (q := 1) (by decide) ha; rw [← hr1] at he1 hm1 hp1 hq1; have R1 := hq1 (by simp); have hg1 := note_feet ⟨3, 7, [], 0, 0⟩ D0 1 a; rw [← hr1] at hg1; clear hq1 hr1; dsimp only at hg1; dsimp only at he1 hm1 hp1 R1; (try (dsimp only [Nat.reduceAdd, bC, bL]))) | (guard_target =~ CallOb _ 22 _ _ _ _; refine call_q (seal_c J3 S3 D3 R3.up.ok (by decide) (R3.jok (by decide))) [(0, some 30), (1, some 0), (2, some 31)] cvJrnFind3 rfT rfT rfT (fun v h1 n1 hp => ?_); obtain ⟨⟨e4, J4, D4, S4⟩, hr4, rfl, rfl, rfl⟩ := hp; dsimp only at hr4; obtain ⟨he4, hf4, hp4, hn4, R4⟩ := seal_step R3 (by decide); have hg4 := seal_feet he4 (by rw [R3.loose]; simp); rw [← hr4] at he4 hf4 hp4 hn4 R4 hg4; clear hr4; dsimp only at hg4; have h1n : (1 : Int) ∈ J3.noted := (by rw [R3.noted]; simp); have h0n : ¬ (0 : Int) ∈ J3.noted := (by rw [R3.noted]; simp); dsimp only at he4 hf4 hp4 hn4 R4; have hal : ([] ++ [((1 : Int), a)] ++ [((2 : Int), a)] : List Pg) = [(1, a), (2, a)] := rfl; rw [hal] at R4; clear hal; (try (dsimp only [Nat.reduceAdd, bC, bL]))) | (guard_target =~ CallOb _ 11 _ _ _ _; refine call_q (find_c S4 D4 R4.up.ok (by decide)) [(0, some 0)] cvJrnFind3 rfT rfT rfT (fun v h1 n1 hp => ?_); obtain ⟨⟨⟨e5, pg, sr, is⟩, D5, S5, cp⟩, ⟨hr5, hcp⟩, rfl, rfl, rfl⟩ := hp; dsimp only at hr5 hcp; obtain ⟨D', hF1, hF2, hF3⟩ := found_step R4; rw [hF1, if_neg omT, decide_eq_true hf4] at hr5; simp only [Prod.mk.injEq] at hr5; obtain ⟨⟨he5, hpg, hsr, his⟩, hD5⟩ := hr5; have hsr2 : sr = [(1, a), (2, a)] := hsr; rw [← hD5] at hF2 hF3; clear hF1 hD5 hsr; subst hsr2; have hpg3 : pg = 3 := (by rw [hpg, hp4, hp3, hp2, hp1]); have hs5 : sizeD D5 jnN = 3 := (by rw [size_sealed R4 hf4 hF2, hg4, hg3, hg2, hg1]; rfl); (try (dsimp only [Nat.reduceAdd, bC, bL]))) | (guard_target =~ CallOb _ 18 _ _ _ _; guard_hyp hs6 : sizeD D6 jnN = -1; refine call_q (size_k S6 D6 (up_ok hu6.ok (by decide)) jnN) [(0, some 0)] cvJrnFind3 rfT rfT rfT (fun v h1 n1 hp => ?_); obtain ⟨sy, S6, hsy, rfl, rfl, rfl⟩ := hp; rw [hs6] at hsy; (try (dsimp only [Nat.reduceAdd, bC, bL]))) | (guard_target =~ CallOb _ 18 _ _ _ _; refine call_q (size_k S5 D5 (up_ok hF3.ok (by decide)) jnN) [(0, some 0)] cvJrnFind3 rfT rfT rfT (fun v h1 n1 hp => ?_); obtain ⟨sz, S5, hsz, rfl, rfl, rfl⟩ := hp; rw [hs5] at hsz; (try (dsimp only [Nat.reduceAdd, bC, bL]))) | (guard_target =~ CallOb _ 23 _ _ _ _; first | (refine call_q (has_c J4 S5 D5 1) [(0, some 30), (1, some 0), (2, some 31)] cvJrnFind3 rfT rfT rfT (fun v h1 n1 hp => ?_); obtain ⟨z1, hz1, rfl, rfl, rfl⟩ := hp; have hz1 : z1 = true := hz1.2 (by rw [hn4]; exact h1n); (try (dsimp only [Nat.reduceAdd, bC, bL]))) | (refine call_q (has_c J4 S5 D5 0) [(0, some 30), (1, some 0), (2, some 31)] cvJrnFind3 rfT rfT rfT (fun v h1 n1 hp => ?_); obtain ⟨z2, hz2, rfl, rfl, rfl⟩ := hp; have hz2 : ¬ z2 = true := fun h => h0n (by rw [← hn4]; exact hz2.1 h); (try (dsimp only [Nat.reduceAdd, bC, bL])))) | (guard_target =~ CallOb _ 24 _ _ _ _; refine call_q (end_c J4 S5 D5 hF3.ok (by decide)) [(0, some 30), (1, some 0), (2, some 31)] cvJrnFind3 rfT rfT rfT (fun v h1 n1 hp => ?_); obtain ⟨⟨e6, D6, S6⟩, hr6, rfl, rfl, rfl⟩ := hp; dsimp only at hr6; obtain ⟨he6, hs6, hu6⟩ := end_step R4 hf4 hF2 hF3; rw [← hr6] at he6 hs6 hu6; clear hr6; dsimp only at he6 hs6 hu6; (try (dsimp only [Nat.reduceAdd, bC, bL]))) | (guard_target =~ ∃ b, EqOb _ _ _ _ b ∧ _; refine ⟨_, ob_pg _ _ _ _, ?_⟩; rw [eqPg_self]) | (with_reducible first | refine chk_in (Nat.ble_eq_true_of_le omT) ?_ | (refine ifB_in ?_ ?_ <;> intro hb <;> (try simp only [bN1, bN2, bN3, bN4, bN5, bN6, bN7, bN8, bN9, bN0] at hb) <;> (try (exfalso; omega))) | refine ⟨_, w64b _, ?_⟩ | refine ⟨_, w64 omT omT, ?_⟩ | refine ⟨_, wu64 omT omT, ?_⟩ | refine ⟨_, wu8 omT omT, ?_⟩ | refine ⟨_, w64 szT szT, ?_⟩ | refine ⟨_, rfl, ?_⟩ | refine ⟨rfl, ?_⟩) | intro cap | (with_reducible refine ⟨trivial, ?_⟩) | (guard_target =~ (planChk _ _ = true) ∧ _; refine ⟨by kernel_rfl, ?_⟩) | (guard_target =~ (_ ∧ _) ∧ _; refine ⟨by ((repeat (first | exact trivial | refine ⟨rfl, ?_⟩)); (first | done | fail)), ?_⟩) | refine ⟨by omega, ?_⟩ | refine ⟨szT, ?_⟩ | refine ⟨0, rfl, ?_⟩ | refine ⟨1, rfl, ?_⟩ | refine ⟨2, rfl, ?_⟩ | refine ⟨3, rfl, ?_⟩ | refine ⟨4, rfl, ?_⟩ | refine ⟨5, rfl, ?_⟩ | (refine cell_at1 (by assumption) ?_) | (refine cell_in1 omT (fun x hx => ?_)) | fail)) <;> (try (conv => whnf))
 all_goals first
  | (guard_hyp hb : e6 = 0; (refine Ends.go (decide (sy = -1)) ?_ [] (Fit.q cvJrnFind3 (by rfl) (by rfl))); exact decide_eq_true hsy)
  | (exfalso; exact hz2 hb)
  | exact Bool.noConfusion (hz1.symm.trans hb)
  | exact Bool.noConfusion (his.symm.trans hb)
  | (exfalso; omega)
  | trace_state
end Go.Proofs.YtelolcagncgfpaaGreat
