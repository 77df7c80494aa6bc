/- strings.Builder: copyCheck, WriteByte, WriteString, Len, String. -/
import Derived.Test.YtelolcagncgfpaaGreatCall
import Derived.Test.YtelolcagncgfpaaGreatEngM
import Derived.Shelf.Strings.Builder1
namespace Go.Proofs.YtelolcagncgfpaaGreat
open Go.Shelf Go.RowKit
set_option linter.unusedSimpArgs false
set_option linter.unusedVariables false
abbrev ptrB (b : Nat) : Value := .pointer (some ⟨b, 0, none⟩)
theorem bldSize : (Tryz.prog.info? 96).map (·.size) = some 2 := by kernel_rfl
theorem bldLies : liesAt Tryz.prog Tryz.prog.depth 96 (2 / Tryz.prog.cellsOf 96) 0 96 1 = true := by kernel_rfl
set_option maxHeartbeats 1000000 in
set_option maxRecDepth 100000 in
theorem cc_used (b : Nat) (w : World) (h0 : w.cell? ⟨b, 0, none⟩ = some (ptrB b)) : Calls Tryz.prog 79 #[ptrB b] w fun e w' => e = .returned (.tuple #[]) ∧ w' = w := by
 obtain ⟨j, hj, _⟩ := Option.map_eq_some_iff.1 bldSize
 go_enter Tryz.func79, Tryz.ntmps79
 go_wp2
 rw [Lib.run_neq_ptr_same w _ Tryz.underlying94 hj]
 go_wp2
 go_end0
 exact ⟨rfl, rfl⟩
set_option maxHeartbeats 1000000 in
set_option maxRecDepth 100000 in
theorem cc_fresh (b : Nat) (w : World) (h0 : w.cell? ⟨b, 0, none⟩ = some (.pointer none)) (hsh : w.shape? b = some (96, 2)) (hfz : w.frozen? ⟨b, 0, none⟩ = false) :
 Calls Tryz.prog 79 #[ptrB b] w fun e w' => e = .returned (.tuple #[]) ∧ w' = w.setCell ⟨b, 0, none⟩ (ptrB b) := by
 obtain ⟨j, hj, hjs⟩ := Option.map_eq_some_iff.1 bldSize
 go_enter Tryz.func79, Tryz.ntmps79
 go_wp2
 rw [Lib.run_to_unsafe w ⟨b, 0, none⟩ Tryz.underlying94 Tryz.underlying139 hj (by rw [hjs]; decide) hsh (Nat.zero_lt_succ 1)]
 simp only [Result.andThen]
 rw [Oper.upon_value]
 go_wp2
 rw [run_callFunc_extern Tryz.func96 (by kernel_rfl) (by kernel_rfl) (by kernel_rfl) (e := Extern.AbiNoEscape.same) (by kernel_rfl)]
 rw [Lib.run_noEscape]
 simp only [Result.andThen]
 rw [Oper.upon_value]
 go_wp2
 rw [Lib.run_from_unsafe w ⟨b, 0, none⟩ Tryz.underlying139 Tryz.underlying94 hj hsh bldLies]
 simp only [Result.andThen]
 rw [Oper.upon_value]
 go_wp2
 go_end0
 exact ⟨rfl, rfl⟩
end Go.Proofs.YtelolcagncgfpaaGreat
namespace Go.Proofs.YtelolcagncgfpaaGreat
open Go.RowKit
set_option linter.unusedSimpArgs false
set_option linter.unusedVariables false
abbrev bldG (k : Nat) (p : Value) (l : List UInt8) (c : Nat) : HP := [(0, .own 96 [p, mslice k l.length c]), (k, .lst 5 1 c (l.map byteV'))]
theorem own0 {F : Nat → Prop} {B : Nat} {w0 : World} {m : BM} {h : HP} {n : Nat} {w : World} (H : HRel F B w0 m h n w) {i : Nat} {ty : TypeId} {cs : List Value} (e : lkH h i = some (.own ty cs)) :
 ∃ g l, m i g 0 ∧ (B ≤ g ∨ F g) ∧ LR (V1 m) cs l ∧ Blk w g ty l.toArray := by
 obtain ⟨g, s, hm, rfl, hf, l, hl, hb⟩ := H.dom i _ e
 exact ⟨g, l, hm, hf, hl, hb⟩
theorem ptr_at {m : BM} (hf : m.Fn) {i g : Nat} (hm : m i g 0) {c : Value} (h : VR m (.pointer (some ⟨i, 0, none⟩)) c) : c = .pointer (some ⟨g, 0, none⟩) := by
 obtain ⟨b, hb, rfl⟩ := h.ptr
 obtain ⟨g', s', hm', _, rfl⟩ := hb.old
 obtain ⟨rfl, rfl⟩ := hf _ _ _ _ _ hm hm'
 rw [sh_zero]
theorem cc_u (l : List UInt8) (c : Nat) : CallOb Tryz.prog 79 [ptrB 0] (bldG 1 (ptrB 0) l c) 2 (fun v h m => ∃ z : Unit, True ∧ v = .tuple #[] ∧ h = bldG 1 (ptrB 0) l c ∧ m = 2) := by
 refine ⟨Tryz.call79, fun F B w0 m w cs H ha => ?_⟩
 obtain ⟨g, l0, hm, hf, hl, hb⟩ := own0 H (i := 0) rfl
 match cs, ha with
 | [a], ⟨ha, _⟩ =>
  obtain rfl := ptr_at H.fn hm ha
  match l0, hl with
  | [c0, c1], ⟨h0, _⟩ =>
   obtain rfl := ptr_at H.fn hm ((VR.of1 rfl).2 h0)
   refine (cc_used g w (hb.cell 0)).mono ?_
   rintro e w' ⟨rfl, rfl⟩
   exact ⟨m, .tuple #[], _, _, _, rfl, BM.le_refl m, VR.same rfl, H, (), trivial, rfl, rfl, rfl⟩
theorem cc_f (l : List UInt8) (c : Nat) : CallOb Tryz.prog 79 [ptrB 0] (bldG 1 (.pointer none) l c) 2 (fun v h m => ∃ z : Unit, True ∧ v = .tuple #[] ∧ h = bldG 1 (ptrB 0) l c ∧ m = 2) := by
 refine ⟨Tryz.call79, fun F B w0 m w cs H ha => ?_⟩
 obtain ⟨g, l0, hm, hf, hl, hb⟩ := own0 H (i := 0) rfl
 match cs, ha with
 | [a], ⟨ha, _⟩ =>
  obtain rfl := ptr_at H.fn hm ha
  match l0, hl with
  | [c0, c1], ⟨h0, h1, h2⟩ =>
   obtain rfl := (V1.flat rfl).1 h0
   refine (cc_fresh g w (hb.cell 0) (by unfold Blk at hb; simp [World.shape?, hb]) (hb.frozen 0)).mono ?_
   rintro e w' ⟨rfl, rfl⟩
   have hb' : Blk (w.setCell ⟨g, 0, none⟩ (ptrB g)) g 96 #[ptrB g, c1] := by
    unfold Blk at *
    simp [World.setCell, Array.getElem?_modify, hb]
   exact ⟨m, .tuple #[], _, _, _, rfl, BM.le_refl m, VR.same rfl, H.upd (b := 0) (it' := .own 96 [ptrB 0, mslice 1 l.length c]) rfl rfl rfl rfl rfl hm hf (fun k hk => by simp [World.setCell, Array.getElem?_modify, Ne.symm hk]) (by simp [World.setCell]) rfl rfl rfl
    ⟨rfl, hf, [ptrB g, c1], ⟨(VR.of1 rfl).1 (VR.ptr_of (.inl ⟨rfl, g, 0, hm, zero_ne_nilS, by rw [sh_zero]⟩)), h1, h2⟩, hb'⟩, (), trivial, rfl, rfl, rfl⟩
theorem len_mapB {α : Type} (l : List α) (f : α → Value) : (l.map f).length = l.length * 1 := by rw [List.length_map, Nat.mul_one]
theorem app_byte {l : List UInt8} {b : UInt8} {x : Int} (hx : x = (b.toNat : Nat)) : l.map byteV' ++ [.int .u8 x] = (l ++ [b]).map byteV' := by
 subst hx; rw [List.map_append]; rfl
theorem app_bytes {l k : List UInt8} : l.map byteV' ++ k.map byteV' = (l ++ k).map byteV' := by rw [List.map_append]
theorem len_byte {l : List UInt8} {b : UInt8} : l.length + 1 = (l ++ [b]).length := by simp
theorem len_bytes {l : List UInt8} {s : ByteArray} : l.length + s.size = (l ++ bytesOf s).length := by rw [List.length_append, bytesOf_length]
theorem cvBldAll1 {p : Prop} (h : p := by have nw := True.intro; (repeat' (first | exact True.intro | (with_reducible exact rfl) | (with_reducible exact AbsLe.refl) | (guard_target =~ @Eq Nat _ _; first | exact rfl | omega) | (guard_target =~ List.map _ _ = []; exact rfl) | (first | exact covL_of (app_byte hx) (flat_map (fun _ => rfl) _) | exact covL_of app_bytes (flat_map (fun _ => rfl) _) | exact len_byte | exact len_bytes) | (exact congrArg (Value.int _) (by omega)) | (exact covL_flat (flat_map (fun _ => rfl) _)) | (exact covL_flat flat_nil) | (refine covP_all ?_; (try clear nw); have nw := True.intro) | (refine covL_each ?_; (try clear nw); have nw := True.intro) | (refine ⟨?_, ?_⟩ <;> (try clear nw) <;> have nw := True.intro) | (guard_hyp nw : True; ((conv => whnf) <;> clear nw)))); (first | done | fail)) : p := h
theorem rnBldAll2 {p : Prop} (h : p := by refine ⟨?_, ?_, ?_⟩; (first | apply rR_tuple | apply rR_one rfl | exact rfl); all_goals (repeat' (first | (with_reducible (first | exact relH_nil | apply rn_lst | apply rn_own | apply rn_mp | apply rn_row | apply rn_abs | exact wo_nil)) | apply wo_keep rfl | apply wo_drop rfl | exact relH_nil | exact r1_flat rfl | exact r0_flat rfl | exact rl_nil | exact wo_nil | exact bk_old rfl | exact bk_new rfl | exact bk_nil rfl | apply rl_cons | (fail) | exact relL_flat (flat_map (fun _ => rfl) _) | exact relL_flat flat_nil | apply relL_to | apply rn_lst | apply rn_own | apply rn_mp | apply rn_row | apply relH_view rfl | apply relH_lview rfl | apply relH_fact rfl | exact r1_rig | exact r0_rig | exact r1_rigs | exact r0_rigs | apply wo_keep rfl | apply wo_drop rfl | apply r1_agg | apply rn_ptr | apply rn_slice | apply rn_slice0 | apply rn_iface | apply rn_map | apply rn_ifacem | apply r0_map | apply r0_ifacem | apply r0_ptr | apply r0_slice | apply r0_slice0 | apply r0_iface)); (first | done | fail)) : p := h
set_option maxRecDepth 100000 in
theorem wstr_u (l : List UInt8) (c : Nat) (s : ByteArray) (hl : l.length + s.size ≤ 140737488355328) : CallOb Tryz.prog 50 [ptrB 0, .string s] (bldG 1 (ptrB 0) l c) 2 (fun v h m => ∃ z : Nat, True ∧ v = .tuple #[.int .i64 (s.size : Nat), .nilIface] ∧ h = bldG 2 (ptrB 0) (l ++ bytesOf s) z ∧ m = 3) := by
 refine call_spec tabOk mixed Tryz.call50 Tryz.func50 rfl [] (fun z : Nat => True) (fun z => .tuple #[.int .i64 (s.size : Nat), .nilIface]) (fun z => bldG 2 (ptrB 0) (l ++ bytesOf s) z) (fun _ => 3) (Nat.le_of_ble_eq_true rfl) ?_
 (repeat' ((try (conv => whnf)); first | (guard_target =~ ∃ (_ : Value), ∃ (_ : HP), ∃ (_ : HP), _; refine ⟨_, _, _, rnBldAll2, ?_⟩; (try (dsimp only [Nat.reduceAdd]))) | ((guard_target =~ CallOb _ 79 _ _ _ _; refine call_q (cc_u l c) [(0, some _), (1, some _)] cvBldAll1 rfT rfT rfT (fun v h1 n1 hp => ?_); obtain ⟨⟨⟩, _, rfl, rfl, rfl⟩ := hp); (try (dsimp only [Nat.reduceAdd]))) | ((guard_target =~ CallOb _ 79 _ _ _ _; refine call_q (cc_f l c) [(0, some _), (1, some _)] cvBldAll1 rfT rfT rfT (fun v h1 n1 hp => ?_); obtain ⟨⟨⟩, _, rfl, rfl, rfl⟩ := hp); (try (dsimp only [Nat.reduceAdd]))) | (with_reducible refine ⟨len_mapB _ _, ?_⟩) | (with_reducible first | refine chk_in (Nat.ble_eq_true_of_le omT) ?_ | (refine ifB_in ?_ ?_ <;> intro hb <;> (try simp only [bN1, bN2, bN3, bN4, bN5, bN6, bN7, bN8, bN9, bN0] at hb) <;> (try (exfalso; omega))) | refine ⟨_, w64b _, ?_⟩ | refine ⟨_, w64 omT omT, ?_⟩ | refine ⟨_, wu64 omT omT, ?_⟩ | refine ⟨_, wu8 omT omT, ?_⟩ | refine ⟨_, w64 szT szT, ?_⟩ | refine ⟨_, rfl, ?_⟩ | refine ⟨rfl, ?_⟩) | intro cap | (with_reducible refine ⟨trivial, ?_⟩) | (guard_target =~ (planChk _ _ = true) ∧ _; refine ⟨by kernel_rfl, ?_⟩) | (guard_target =~ (_ ∧ _) ∧ _; refine ⟨by ((repeat (first | exact trivial | refine ⟨rfl, ?_⟩)); (first | done | fail)), ?_⟩) | refine ⟨by omega, ?_⟩ | refine ⟨szT, ?_⟩ | refine ⟨0, rfl, ?_⟩ | refine ⟨1, rfl, ?_⟩ | refine ⟨2, rfl, ?_⟩ | refine ⟨3, rfl, ?_⟩ | refine ⟨4, rfl, ?_⟩ | refine ⟨5, rfl, ?_⟩ | (refine cell_at1 (by assumption) ?_) | (refine cell_in1 omT (fun x hx => ?_)) | fail)) <;> (try (conv => whnf))
 (refine Ends.go (_) ?_ [(2, some _)] (Fit.q cvBldAll1 (by rfl) (by rfl)))
 trivial
set_option maxRecDepth 100000 in
theorem wstr_f (l : List UInt8) (c : Nat) (s : ByteArray) (hl : l.length + s.size ≤ 140737488355328) : CallOb Tryz.prog 50 [ptrB 0, .string s] (bldG 1 (.pointer none) l c) 2 (fun v h m => ∃ z : Nat, True ∧ v = .tuple #[.int .i64 (s.size : Nat), .nilIface] ∧ h = bldG 2 (ptrB 0) (l ++ bytesOf s) z ∧ m = 3) := by
 refine call_spec tabOk mixed Tryz.call50 Tryz.func50 rfl [] (fun z : Nat => True) (fun z => .tuple #[.int .i64 (s.size : Nat), .nilIface]) (fun z => bldG 2 (ptrB 0) (l ++ bytesOf s) z) (fun _ => 3) (Nat.le_of_ble_eq_true rfl) ?_
 (repeat' ((try (conv => whnf)); first | (guard_target =~ ∃ (_ : Value), ∃ (_ : HP), ∃ (_ : HP), _; refine ⟨_, _, _, rnBldAll2, ?_⟩; (try (dsimp only [Nat.reduceAdd]))) | ((guard_target =~ CallOb _ 79 _ _ _ _; refine call_q (cc_u l c) [(0, some _), (1, some _)] cvBldAll1 rfT rfT rfT (fun v h1 n1 hp => ?_); obtain ⟨⟨⟩, _, rfl, rfl, rfl⟩ := hp); (try (dsimp only [Nat.reduceAdd]))) | ((guard_target =~ CallOb _ 79 _ _ _ _; refine call_q (cc_f l c) [(0, some _), (1, some _)] cvBldAll1 rfT rfT rfT (fun v h1 n1 hp => ?_); obtain ⟨⟨⟩, _, rfl, rfl, rfl⟩ := hp); (try (dsimp only [Nat.reduceAdd]))) | (with_reducible refine ⟨len_mapB _ _, ?_⟩) | (with_reducible first | refine chk_in (Nat.ble_eq_true_of_le omT) ?_ | (refine ifB_in ?_ ?_ <;> intro hb <;> (try simp only [bN1, bN2, bN3, bN4, bN5, bN6, bN7, bN8, bN9, bN0] at hb) <;> (try (exfalso; omega))) | refine ⟨_, w64b _, ?_⟩ | refine ⟨_, w64 omT omT, ?_⟩ | refine ⟨_, wu64 omT omT, ?_⟩ | refine ⟨_, wu8 omT omT, ?_⟩ | refine ⟨_, w64 szT szT, ?_⟩ | refine ⟨_, rfl, ?_⟩ | refine ⟨rfl, ?_⟩) | intro cap | (with_reducible refine ⟨trivial, ?_⟩) | (guard_target =~ (planChk _ _ = true) ∧ _; refine ⟨by kernel_rfl, ?_⟩) | (guard_target =~ (_ ∧ _) ∧ _; refine ⟨by ((repeat (first | exact trivial | refine ⟨rfl, ?_⟩)); (first | done | fail)), ?_⟩) | refine ⟨by omega, ?_⟩ | refine ⟨szT, ?_⟩ | refine ⟨0, rfl, ?_⟩ | refine ⟨1, rfl, ?_⟩ | refine ⟨2, rfl, ?_⟩ | refine ⟨3, rfl, ?_⟩ | refine ⟨4, rfl, ?_⟩ | refine ⟨5, rfl, ?_⟩ | (refine cell_at1 (by assumption) ?_) | (refine cell_in1 omT (fun x hx => ?_)) | fail)) <;> (try (conv => whnf))
 (refine Ends.go (_) ?_ [(2, some _)] (Fit.q cvBldAll1 (by rfl) (by rfl)))
 trivial
set_option maxRecDepth 100000 in
theorem blen_c (p : Value) (hp : p = ptrB 0 ∨ p = .pointer none) (l : List UInt8) (c : Nat) (hl : l.length < 9223372036854775807) : CallOb Tryz.prog 59 [ptrB 0] [(0, .view [p, mslice 1 l.length c]), (1, .lview (l.map byteV'))] 2 (fun v h m => ∃ z : Int, z = (l.length : Nat) ∧ v = .int .i64 z ∧ h = [] ∧ m = 2) := by
 refine call_spec tabOk mixed Tryz.call59 Tryz.func59 rfl [] (fun z : Int => z = (l.length : Nat)) (fun z => .int .i64 z) (fun _ => []) (fun _ => 2) (Nat.le_of_ble_eq_true rfl) ?_
 (repeat' ((try (conv => whnf)); first | (with_reducible first | refine chk_in (Nat.ble_eq_true_of_le omT) ?_ | (refine ifB_in ?_ ?_ <;> intro hb <;> (try simp only [bN1, bN2, bN3, bN4, bN5, bN6, bN7, bN8, bN9, bN0] at hb) <;> (try (exfalso; omega))) | refine ⟨_, w64b _, ?_⟩ | refine ⟨_, w64 omT omT, ?_⟩ | refine ⟨_, wu64 omT omT, ?_⟩ | refine ⟨_, wu8 omT omT, ?_⟩ | refine ⟨_, w64 szT szT, ?_⟩ | refine ⟨_, rfl, ?_⟩ | refine ⟨rfl, ?_⟩) | intro cap | (with_reducible refine ⟨trivial, ?_⟩) | (guard_target =~ (planChk _ _ = true) ∧ _; refine ⟨by kernel_rfl, ?_⟩) | (guard_target =~ (_ ∧ _) ∧ _; refine ⟨by ((repeat (first | exact trivial | refine ⟨rfl, ?_⟩)); (first | done | fail)), ?_⟩) | refine ⟨by omega, ?_⟩ | refine ⟨szT, ?_⟩ | refine ⟨0, rfl, ?_⟩ | refine ⟨1, rfl, ?_⟩ | refine ⟨2, rfl, ?_⟩ | refine ⟨3, rfl, ?_⟩ | refine ⟨4, rfl, ?_⟩ | refine ⟨5, rfl, ?_⟩ | fail)) <;> (try (conv => whnf))
 (refine Ends.go (_) ?_ [] (Fit.q cvBldAll1 (by rfl) (by rfl)))
 rfl
end Go.Proofs.YtelolcagncgfpaaGreat
namespace Go.Proofs.YtelolcagncgfpaaGreat
open Go.Shelf Go.RowKit
set_option linter.unusedSimpArgs false
set_option linter.unusedVariables false
set_option maxHeartbeats 1000000 in
set_option maxRecDepth 100000 in
theorem bstr_full (b g cap : Nat) (p : Value) (cur : Array Value) (l : List UInt8) (w : World) (hbk : w.heap[b]? = some (.cells #[p, .slice (some ⟨g, 0, none⟩) l.length cap] 96 (0, 0))) (hg : w.heap[g]? = some (.cells cur 5 (0, 0)))
 (hnc : l.length ≤ cap) (hcm : cap ≤ maxLen) (hcs : cur.size = cap) (hc : ∀ j x, l[j]? = some x → w.cell? ⟨g, j, none⟩ = some (.int .u8 x.toNat)) (h0 : l ≠ []) :
 Calls Tryz.prog 51 #[ptrB b] w fun e w' => e = .returned (.string ⟨l.toArray⟩) ∧ w' = w.drew.freeze ⟨g, 0, none⟩ l.length := by
 have hl0 : l.length ≠ 0 := by simpa using h0
 have c1 : w.drew.cell? ⟨b, 1, none⟩ = some (.slice (some ⟨g, 0, none⟩) l.length cap) := by
  have : w.drew.heap[b]? = some (.cells #[p, .slice (some ⟨g, 0, none⟩) l.length cap] 96 (0, 0)) := hbk
  rw [Lib.cell_of_heap this]; rfl
 have hSD : (Builtin.unsafeSliceData_ #[53] 129 #[.slice (some ⟨g, 0, none⟩) l.length cap]).run Tryz.prog w.drew = .ok (.pointer (some ⟨g, 0, none⟩)) w.drew :=
  Lib.run_unsafeSliceData_row _ _ _ _ _ _ (by omega)
 have hUS : (Builtin.unsafeString_ #[129, 3] 9 #[.pointer (some ⟨g, 0, none⟩), .int .i64 l.length]).run Tryz.prog w.drew = .ok (.string ⟨l.toArray⟩) (w.drew.freeze ⟨g, 0, none⟩ l.length) := by
  refine Lib.run_unsafeString_row w.drew 129 3 9 5 Tryz.underlying129 (by kernel_rfl) g cur.size (by have hg' : w.drew.heap[g]? = some (.cells cur 5 (0, 0)) := hg; simp [World.shape?, hg']) l h0 (by omega) (by unfold maxLen at hcm; omega) ?_
  intro j x hx
  rw [add_lit', Nat.zero_add]
  exact hc j x hx
 have hmixed := mixed
 go_enter Tryz.func51, Tryz.ntmps51
 go_wp2
 go_region_o
 all_goals (go_wp2; go_ret; exact ⟨rfl, rfl⟩)
theorem bstr_x (p : Value) (l : List UInt8) (c : Nat) (hne : l ≠ []) : CallOb Tryz.prog 51 [ptrB 0] (bldG 1 p l c) 2 (fun v h m => ∃ z : ByteArray, z = strOf l ∧ v = .string z ∧ h = [] ∧ m = 2) := by
 refine ⟨Tryz.call51, fun F B w0 m w cs H ha => ?_⟩
 obtain ⟨g, l0, hm, hf, hl, hb⟩ := own0 H (i := 0) rfl
 match cs, ha with
 | [a], ⟨ha, _⟩ =>
 obtain rfl := ptr_at H.fn hm ha
 match l0, hl with
 | [p1, v1], ⟨_, h1, _⟩ =>
 have hend : ∀ w' : World, Keep F B w w' → ∃ m' v cc h' n', Ending.returned (.string ⟨l.toArray⟩) = Ending.returned cc ∧ m.le m' ∧ VR m' v cc ∧ HRel F B w0 m' h' n' w' ∧ ∃ z : ByteArray, z = strOf l ∧ v = .string z ∧ h' = [] ∧ n' = 2 := fun w' k =>
  ⟨m, .string (strOf l), _, [], 2, rfl, BM.le_refl m, VR.same rfl, ⟨H.keep.trans k, H.base, H.fn, H.fresh, fun i it e => (by cases e), fun i it j jt g s g' s' b e => (by cases e)⟩, _, rfl, rfl, rfl, rfl⟩
 have hbel : ∀ w' : World, Below w.heap.size w w' → Keep F B w w' := fun w' k => Keep.of_below k H.base'
 obtain ⟨g1, s1, hm1, h1⟩ := VR.mslc.1 ((VR.of1 rfl).2 h1)
 obtain ⟨g2, s2, hm2, ok⟩ := H.dom 1 _ rfl
 obtain ⟨rfl, rfl⟩ := H.fn _ _ _ _ _ hm1 hm2
 rcases ok with ⟨rfl, hc0, hnil⟩ | ⟨rfl, hfen, hcm, l2, cur, hl2, hheap, hsz, htk, hle⟩
 · exact absurd (by simpa using hnil) hne
 · rcases h1 with ⟨hx, _⟩ | ⟨_, rfl⟩
   · exact absurd hx zero_ne_nilS
   · have e2 := hl2.bytes
     subst e2
     rw [Nat.mul_one] at hsz
     rw [sh_zero] at hb
     by_cases h0 : l = []
     · subst h0
       by_cases hc0 : c = 0
       · subst hc0
         exact (Any.Builder_String_noroom Tryz.lays169 Tryz.Builder_Extra_169 w.heap.size g g1 p1 cur w (Nat.le_refl _) hb hheap).mono fun e w' ⟨he, hk⟩ => he ▸ hend w' (hbel w' hk)
       · exact (Any.Builder_String_room Tryz.lays169 Tryz.Builder_Extra_169 w.heap.size g g1 c p1 w hc0 hb).mono fun e w' ⟨he, hk⟩ => he ▸ hend w' (hbel w' hk)
     · have hlen : l.length ≤ c := by rw [List.length_map, hsz] at hle; exact hle
       refine (bstr_full g g1 c p1 cur l w hb hheap hlen hcm hsz ?_ h0).mono ?_
       · intro j x hx
         rw [cell_of_row w g1 j cur 5 (0, 0) hheap]
         have hj : j < l.length := (List.getElem?_eq_some_iff.1 hx).1
         have : (cur.toList.take (l.map byteV').length)[j]? = (l.map byteV')[j]? := by rw [htk]
         rw [List.getElem?_take, if_pos (by rw [List.length_map]; exact hj), List.getElem?_map, hx] at this
         simpa [byteV'] using this
       · rintro e w' ⟨rfl, rfl⟩
         refine hend _ ⟨?_, ?_, ?_, ?_, ?_⟩
         · unfold World.freeze; split <;> rfl
         · unfold World.freeze; split <;> rfl
         · unfold World.freeze; split <;> rfl
         · unfold World.freeze; split <;> simp
         · intro k hk hkF
           have hkg : k ≠ g1 := by rintro rfl; rcases hfen with h | h; · omega
                                   · exact hkF h
           unfold World.freeze
           split
           · rfl
           · simp only [Array.getElem?_modify]
             rw [if_neg (fun e => hkg e.symm)]; rfl
theorem bstr_n (p : Value) : CallOb Tryz.prog 51 [ptrB 0] [(0, .own 96 [p, .slice none 0 0])] 1 (fun v h m => ∃ z : ByteArray, z = strOf [] ∧ v = .string z ∧ h = [] ∧ m = 1) := by
 refine ⟨Tryz.call51, fun F B w0 m w cs H ha => ?_⟩
 obtain ⟨g, l0, hm, hf, hl, hb⟩ := own0 H (i := 0) rfl
 match cs, ha with
 | [a], ⟨ha, _⟩ =>
 obtain rfl := ptr_at H.fn hm ha
 match l0, hl with
 | [p1, v1], ⟨_, h1, _⟩ =>
 obtain rfl := (V1.flat rfl).1 h1
 refine (Any.Builder_String_nil Tryz.lays169 Tryz.Builder_Extra_169 w.heap.size g p1 w hb).mono fun e w' ⟨he, hk⟩ => ?_
 subst he
 have k : Keep F B w w' := Keep.of_below hk H.base'
 exact ⟨m, .string (strOf []), _, [], 1, rfl, BM.le_refl m, VR.same rfl, ⟨H.keep.trans k, H.base, H.fn, H.fresh, fun i it e => (by cases e), fun i it j jt g s g' s' b e => (by cases e)⟩, _, rfl, rfl, rfl, rfl⟩
end Go.Proofs.YtelolcagncgfpaaGreat
