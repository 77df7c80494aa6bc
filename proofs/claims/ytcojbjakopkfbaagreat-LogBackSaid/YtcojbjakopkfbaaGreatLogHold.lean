/- The law's helpers: number, page, holds. -/
import Derived.Test.YtcojbjakopkfbaaGreatLogMore
namespace Go.Proofs.YtcojbjakopkfbaaGreat
open Go.RowKit
set_option linter.unusedSimpArgs false
set_option linter.unusedVariables false
/-! A page of one byte. -/
structure Pge (n : Nat) (b : UInt8) (L : List UInt8) (i : Nat) : Prop where
  len : L.length = n
  at' : ∀ j, j < i → L[j]? = some b
theorem Pge.set {n : Nat} {b : UInt8} {L : List UInt8} {i : Nat} (h : Pge n b L i) (hi : i < n) : Pge n b (L.set i b) (i + 1) := by
  refine ⟨by rw [List.length_set]; exact h.len, fun j hj => ?_⟩
  rw [List.getElem?_set]
  split
  · rename_i e; subst e; rw [if_pos (by rw [h.len]; exact hi)]
  · exact h.at' j (by omega)
theorem Pge.done {n : Nat} {b : UInt8} {L : List UInt8} {i : Nat} (h : Pge n b L i) (hi : n ≤ i) : L = List.replicate n b := by
  apply List.ext_getElem?
  intro j
  rcases Nat.lt_or_ge j n with hj | hj
  · rw [h.at' j (by omega), List.getElem?_replicate, if_pos hj]
  · rw [List.getElem?_eq_none (by rw [h.len]; exact hj), List.getElem?_eq_none (by rw [List.length_replicate]; exact hj)]
theorem put_byte {L : List UInt8} {i : Nat} {b : UInt8} {x : Int} (hx : x = (b.toNat : Nat)) : putL (L.map byteV') (0 + i * 1) [.int .u8 x] = (L.set i b).map byteV' := by
  subst hx
  rw [List.map_set, Nat.zero_add, Nat.mul_one]; rfl
theorem row_take {L : List UInt8} {n ty c : Nat} (h : L.length = n) : List.take n (List.drop 0 (Itm.row ty 1 c (L.map byteV')).cells) = L.map byteV' := by
  rw [List.drop_zero]; exact List.take_of_length_le (by show (L.map byteV').length ≤ n; rw [List.length_map]; omega)
theorem u8_int {b : Int} (hb : 0 ≤ b ∧ b ≤ 255) : b = ((UInt8.ofNat b.toNat).toNat : Nat) := by rw [UInt8.toNat_ofNat']; omega
structure WL where
  i : Nat
  L : List UInt8
theorem blt_len {α : Type} {L : List α} {f : α → Value} {i ty sz c : Nat} (h : i < L.length) : (0 + i * 1).blt (Itm.row ty sz c (L.map f)).cells.length = true := by
  rw [Nat.zero_add, Nat.mul_one]
  show Nat.ble (i + 1) (L.map f).length = true
  exact Nat.ble_eq_true_of_le (by rw [List.length_map]; exact h)
/-- A frame of the law: its number, its byte, whether it commits, whether the log is synced behind it. -/
abbrev FT := Int × Int × Bool × Bool
abbrev ftv (y : FT) : List Value := [iv y.1, .int .u8 y.2.1, .bool y.2.2.1, .bool y.2.2.2]
def num10 (n : Int) : Int := (IntKind.u64.wrap n).tmod 10
theorem num10_lt (n : Int) : 0 ≤ num10 n ∧ num10 n < 10 := by
  unfold num10
  have h0 : 0 ≤ IntKind.u64.wrap n := by rw [IntKind.wrap_u64]; omega
  rw [Int.tmod_eq_emod_of_nonneg h0]
  omega
def toX (y : FT) : XL := (num10 y.1, pgS 232 y.2.1, y.2.2.1)
theorem toX_ok (y : FT) : XOk (toX y) := ⟨by have := num10_lt y.1; show 0 ≤ num10 y.1 ∧ num10 y.1 < 4096; omega, pgS_size _ _⟩
theorem toX_all (L : List FT) : ∀ x ∈ L.map toX, XOk x := fun x hx => by obtain ⟨y, _, rfl⟩ := List.mem_map.1 hx; exact toX_ok y
theorem want_step {L : List FT} {i : Nat} {y : FT} (hy : L[i]? = some y) (n : Int) : wantS ((L.take (i + 1)).map toX) n = if num10 y.1 = n then pgS 232 y.2.1 else wantS ((L.take i).map toX) n := by
  have e : L.take (i + 1) = L.take i ++ [y] := by rw [List.take_add_one, hy]; rfl
  rw [e, List.map_append]
  exact want_snoc _ _ _
theorem UpR.okN {X : List XL} {fs : List Fr} {D : DM} (h : UpR X fs D) {n : Int} {z : ByteArray} {is : Bool} {e : Int} {D' : DM} (hg : ((z, is, e), D') = getL fs D n) {N : Int} (hD : D.OkN N) : D'.OkN (N + 1) := by
  have := getL_okN hD fs n
  rw [← hg] at this
  exact this
attribute [local irreducible] numOf fixedL bytesOf strOf strEq strLt sfrom closeS closeE writeD sizeD syncD cutD dropD readD topS sumS sumL rightR lastM readL openL trimR addL kindL lsyncL getL lbackL lendL pgS num10 wantS toX
theorem cvLogHold1 {p : Prop} (h : p := by have nw := True.intro; (repeat' (first | exact True.intro | (with_reducible exact rfl) | (with_reducible exact AbsLe.refl) | (guard_target =~ @Eq Nat _ _; first | exact rfl | omega) | (guard_target =~ List.map _ _ = []; exact rfl) | (first | (guard_target =~ @Eq (List Value) _ _; exact rfl) | exact covL_of (noughts_cells _) (flat_map (fun _ => rfl) _) | exact covL_of (put_byte (u8_int hb8)) (flat_map (fun _ => rfl) _) | exact covL_of rfl (flat_bind (f := frv) (fun _ => rfl) _) | exact covL_of rfl (flat_bind (f := ftv) (fun _ => rfl) _) | exact covL_of rfl (flat_map (fun _ => rfl) _) | first | exact covL_still rfl hvs | exact covL_still rfl (still_map (fun _ => rfl) _) | exact covL_still rfl (still_map ro_still _) | (apply covL_set <;> (try clear nw) <;> have nw := True.intro) | exact congrArg (Value.int _) (by (try dsimp only); omega)) | (exact congrArg (Value.int _) (by omega)) | (exact covL_flat (flat_map (fun _ => rfl) _)) | (exact covL_flat flat_nil) | (refine covP_all ?_; (try clear nw); have nw := True.intro) | (refine covL_each ?_; (try clear nw); have nw := True.intro) | (refine ⟨?_, ?_⟩ <;> (try clear nw) <;> have nw := True.intro) | (guard_hyp nw : True; ((conv => whnf) <;> clear nw)))); (first | done | fail)) : p := h
theorem rnLogHold2 {p : Prop} (h : p := by refine ⟨?_, ?_, ?_⟩; (first | apply rR_tuple | apply rR_one rfl | exact rfl); all_goals (repeat' (first | (with_reducible (first | exact relH_nil | apply rn_lst | apply rn_own | apply rn_mp | apply rn_row | apply rn_abs | exact wo_nil)) | apply wo_keep rfl | apply wo_drop rfl | exact relH_nil | exact r1_flat rfl | exact r0_flat rfl | exact rl_nil | exact wo_nil | exact bk_old rfl | exact bk_new rfl | exact bk_nil rfl | apply rl_cons | (first | exact relL_flat (flat_bind (f := frv) (fun _ => rfl) _) | exact relL_flat (flat_bind (f := ftv) (fun _ => rfl) _) | exact relL_flat (flat_map (fun _ => rfl) _) | first | exact relL_still hvs | exact relL_still (still_map (fun _ => rfl) _) | exact relL_still (still_map ro_still _) | exact relL_flat (flat_map (fun _ => rfl) _) | apply relL_set) | exact relL_flat (flat_map (fun _ => rfl) _) | exact relL_flat flat_nil | apply relL_to | apply rn_lst | apply rn_own | apply rn_mp | apply rn_row | apply relH_view rfl | apply relH_lview rfl | apply relH_fact rfl | exact r1_rig | exact r0_rig | exact r1_rigs | exact r0_rigs | apply wo_keep rfl | apply wo_drop rfl | apply r1_agg | apply rn_ptr | apply rn_slice | apply rn_slice0 | apply rn_iface | apply rn_map | apply rn_ifacem | apply r0_map | apply r0_ifacem | apply r0_ptr | apply r0_slice | apply r0_slice0 | apply r0_iface)); (first | done | fail)) : p := h
set_option maxRecDepth 100000 in
theorem lpage_c (b : Int) (hb8 : 0 ≤ b ∧ b ≤ 255) :
    CallOb Tryz.prog 29 [.int .u8 b] [] 0 (fun v hh m => ∃ z : ByteArray, z = pgS 232 b ∧ v = .string z ∧ hh = [] ∧ m = 0) := by
  refine call_spec tabOk mixed Tryz.call29 Tryz.func29 rfl [] (fun z : ByteArray => z = pgS 232 b) (fun z => .string z) (fun _ => []) (fun _ => 0) ?_ ?_
  · exact (Nat.le_of_ble_eq_true rfl)
  (repeat' ((try (conv => whnf)); first | (guard_target =~ ∃ (_ : Value), ∃ (_ : HP), ∃ (_ : HP), _; refine ⟨_, _, _, rnLogHold2, ?_⟩; (try (dsimp only [Nat.reduceAdd, List.cons_append, List.nil_append]))) | (with_reducible refine ⟨232, 232, rfl, rfl, Nat.le_refl _, by omega, by omega, ?_⟩) | (guard_target =~ LoopOb _ _ _ _ _ _ _ _; refine loop_rule tabOk mixed [] 1 (fun k => [(0, .int .u8 b), (3, .slice (some ⟨0, 0, none⟩) 232 232), (4, iv (WL.i k : Nat))]) (fun k => [(0, .row 5 1 232 ((WL.L k).map byteV'))]) (fun k => 232 - WL.i k) (fun k => WL.i k ≤ 232 ∧ Pge 232 (UInt8.ofNat b.toNat) (WL.L k) (WL.i k)) (⟨0, List.replicate 232 0⟩) (⟨Nat.zero_le _, ⟨List.length_replicate, fun j hj => absurd hj (Nat.not_lt_zero _)⟩⟩) ⟨[(0, some 0)], Sub.q cvLogHold1 (by rfl) (by rfl)⟩ (fun k hk => ?_)) | (rcases k with ⟨i, L⟩; dsimp only at hk ⊢) | (refine ⟨row_take hk.2.len, hk.2.len, ?_⟩) | (refine cell_in1 (by omega) (fun y hy => ?_)) | (with_reducible refine chk_in (Nat.ble_eq_true_of_le (by omega)) ?_) | (with_reducible refine ifB_in ?_ ?_ <;> intro hb <;> (try simp only [decide_eq_true_eq, decide_eq_false_iff_not, Int.not_lt, Int.not_le, ne_eq, Decidable.not_not, Bool.not_eq_true', Bool.not_eq_false', gt_iff_lt, ge_iff_le] at hb) <;> (try (exfalso; omega))) | (with_reducible refine ⟨_, w64b _, ?_⟩) | (with_reducible refine ⟨_, w64 (by omega) (by omega), ?_⟩) | (with_reducible refine ⟨_, wu64 (by omega) (by omega), ?_⟩) | (with_reducible refine ⟨_, wu8 (by omega) (by omega), ?_⟩) | (with_reducible refine ⟨_, w64 (by (simp only [size_sfrom, ByteArray.size_extract, ByteArray.size_append, strOf_size, fixedL_length, lit_size, List.size_toArray, List.length_cons, List.length_nil, List.length_append, List.length_replicate]; omega)) (by (simp only [size_sfrom, ByteArray.size_extract, ByteArray.size_append, strOf_size, fixedL_length, lit_size, List.size_toArray, List.length_cons, List.length_nil, List.length_append, List.length_replicate]; omega)), ?_⟩) | (with_reducible refine ⟨_, rfl, ?_⟩) | (with_reducible refine ⟨rfl, ?_⟩) | (intro cap) | (with_reducible refine ⟨trivial, ?_⟩) | (guard_target =~ (planChk _ _ = true) ∧ _; refine ⟨by kernel_rfl, ?_⟩) | (guard_target =~ (_ ∧ _) ∧ _; refine ⟨by ((repeat (first | exact trivial | refine ⟨rfl, ?_⟩)); (first | done | fail)), ?_⟩) | (refine ⟨by omega, ?_⟩) | (refine ⟨by (simp only [size_sfrom, ByteArray.size_extract, ByteArray.size_append, strOf_size, fixedL_length, lit_size, List.size_toArray, List.length_cons, List.length_nil, List.length_append, List.length_replicate]; omega), ?_⟩) | (refine ⟨0, rfl, ?_⟩) | (refine ⟨1, rfl, ?_⟩) | (refine ⟨2, rfl, ?_⟩) | (refine ⟨3, rfl, ?_⟩) | (refine ⟨4, rfl, ?_⟩) | (refine ⟨5, rfl, ?_⟩) | (refine cell_at1 (by assumption) ?_) | (refine cell_in1 (by omega) (fun x hx => ?_)) | fail)) <;> (try (conv => whnf))
  all_goals first
    | ((refine Again.go ((⟨i + 1, L.set i (UInt8.ofNat b.toNat)⟩ : WL)) ?_ (by (try dsimp only); omega) [(0, some 0)] (Sub.q cvLogHold1 (by rfl) (by rfl))); exact ⟨by dsimp only; omega, hk.2.set (by omega)⟩)
    | ((refine Ends.go (strOf L) ?_ [] (Fit.q cvLogHold1 (by rfl) (by rfl))); unfold pgS; rw [hk.2.done (by omega)])
    | (exfalso; exact absurd ((blt_len (L := L) (f := byteV') (i := i) (by rw [hk.2.len]; omega)).symm.trans hb) (by decide))
theorem num_goal {n : Int} {K : Int → Prop} (h : K (num10 n)) : ∃ r, r = (IntKind.u64.wrap n).tmod (10 : Int) ∧ K r := ⟨_, rfl, by unfold num10 at h; exact h⟩
set_option maxRecDepth 100000 in
theorem number_c (y : FT) : CallOb Tryz.prog 28 [.agg (ftv y).toArray] [] 0 (fun v hh m => ∃ z : Int, z = num10 y.1 ∧ v = iv z ∧ hh = [] ∧ m = 0) := by
  refine call_spec tabOk mixed Tryz.call28 Tryz.func28 rfl [] (fun z : Int => z = num10 y.1) (fun z => iv z) (fun _ => []) (fun _ => 0) ?_ ?_
  · exact (Nat.le_of_ble_eq_true rfl)
  have hn := num10_lt y.1
  (repeat' ((try (conv => whnf)); first | (guard_target =~ ∃ (_ : Value), ∃ (_ : HP), ∃ (_ : HP), _; refine ⟨_, _, _, rnLogHold2, ?_⟩; (try (dsimp only [Nat.reduceAdd, List.cons_append, List.nil_append]))) | (guard_target =~ ∃ r, r = IntKind.wrap .u64 _ ∧ _; refine ⟨_, rfl, ?_⟩) | (guard_target =~ ∃ r, r = Int.tmod _ _ ∧ _; refine num_goal ?_) | (with_reducible refine chk_in (Nat.ble_eq_true_of_le (by omega)) ?_) | (with_reducible refine ifB_in ?_ ?_ <;> intro hb <;> (try simp only [decide_eq_true_eq, decide_eq_false_iff_not, Int.not_lt, Int.not_le, ne_eq, Decidable.not_not, Bool.not_eq_true', Bool.not_eq_false', gt_iff_lt, ge_iff_le] at hb) <;> (try (exfalso; omega))) | (with_reducible refine ⟨_, w64b _, ?_⟩) | (with_reducible refine ⟨_, w64 (by omega) (by omega), ?_⟩) | (with_reducible refine ⟨_, wu64 (by omega) (by omega), ?_⟩) | (with_reducible refine ⟨_, wu8 (by omega) (by omega), ?_⟩) | (with_reducible refine ⟨_, w64 (by (simp only [size_sfrom, ByteArray.size_extract, ByteArray.size_append, strOf_size, fixedL_length, lit_size, List.size_toArray, List.length_cons, List.length_nil, List.length_append, List.length_replicate]; omega)) (by (simp only [size_sfrom, ByteArray.size_extract, ByteArray.size_append, strOf_size, fixedL_length, lit_size, List.size_toArray, List.length_cons, List.length_nil, List.length_append, List.length_replicate]; omega)), ?_⟩) | (with_reducible refine ⟨_, rfl, ?_⟩) | (with_reducible refine ⟨rfl, ?_⟩) | (intro cap) | (with_reducible refine ⟨trivial, ?_⟩) | (guard_target =~ (planChk _ _ = true) ∧ _; refine ⟨by kernel_rfl, ?_⟩) | (guard_target =~ (_ ∧ _) ∧ _; refine ⟨by ((repeat (first | exact trivial | refine ⟨rfl, ?_⟩)); (first | done | fail)), ?_⟩) | (refine ⟨by omega, ?_⟩) | (refine ⟨by (simp only [size_sfrom, ByteArray.size_extract, ByteArray.size_append, strOf_size, fixedL_length, lit_size, List.size_toArray, List.length_cons, List.length_nil, List.length_append, List.length_replicate]; omega), ?_⟩) | (refine ⟨0, rfl, ?_⟩) | (refine ⟨1, rfl, ?_⟩) | (refine ⟨2, rfl, ?_⟩) | (refine ⟨3, rfl, ?_⟩) | (refine ⟨4, rfl, ?_⟩) | (refine ⟨5, rfl, ?_⟩) | (refine cell_at1 (by assumption) ?_) | (refine cell_in1 (by omega) (fun x hx => ?_)) | fail)) <;> (try (conv => whnf))
  all_goals first
    | ((refine Ends.go (num10 y.1) ?_ [] (Fit.q cvLogHold1 (by rfl) (by rfl))); rfl)
structure HK where
  n : Nat
  D : DM
  S : Nat → Prop
structure HKR (X : List XL) (fs : List Fr) (N : Int) (k : HK) : Prop where
  le : k.n ≤ 10
  up : UpR X fs k.D
  ok : k.D.OkN (N + (k.n : Nat))
structure HI where
  i : Nat
  w : ByteArray
theorem want_0 (L : List FT) (n : Nat) : (⟨#[]⟩ : ByteArray) = wantS ((L.take 0).map toX) (n : Nat) := by rw [List.take_zero]; unfold wantS; rfl
theorem cell_ft {L : List FT} {i j : Nat} {y : FT} {v : Value} (hf : L[i]? = some y) (hj : j < 4) (hv : (ftv y)[j]? = some v) : (L.flatMap ftv)[i * 4 + j]? = some v := by
  rw [flat_getElem (f := ftv) (n := 4) (fun _ => rfl) L i j y hf hj]; exact hv
theorem hold_ne {L : List FT} {i n : Nat} {w gz : ByteArray} (hi : (L.length : Int) ≤ (i : Nat)) (hw : w = wantS ((L.take i).map toX) (n : Nat)) (hg : gz = wantS (L.map toX) (n : Nat)) (h : strEq gz w = false) : False := by
  rw [List.take_of_length_le (by omega)] at hw
  exact strEq_ne h (hg.trans hw.symm)
theorem hold_is {L : List FT} {i n : Nat} {w : ByteArray} {gi : Bool} (hi : (L.length : Int) ≤ (i : Nat)) (hw : w = wantS ((L.take i).map toX) (n : Nat)) (hg : gi = true ↔ wantS (L.map toX) (n : Nat) ≠ ⟨#[]⟩) (h : (gi == !strEq w ⟨#[]⟩) = false) : False := by
  rw [List.take_of_length_le (by omega)] at hw
  rw [← hw] at hg
  rcases e : strEq w ⟨#[]⟩ with _ | _
  · rw [e, hg.2 (strEq_ne e)] at h; cases h
  · have e2 := strEq_is e
    cases gi
    · rw [e] at h; cases h
    · exact hg.1 rfl e2
set_option maxRecDepth 100000 in
set_option maxHeartbeats 4000000 in
theorem holds_c (fs : List Fr) (cap : Nat) (S : Nat → Prop) (D : DM) {N : Int} (hD : D.OkN N) (hN : N ≤ 800000) (L : List FT) (capL : Nat) (hL : ∀ y ∈ L, 0 ≤ y.2.1 ∧ y.2.1 ≤ 255) (hU : UpR (L.map toX) fs D) (hfl : fs.length ≤ 100000) :
    CallOb Tryz.prog 33 [ptr 0, mslice 4 L.length capL] [(0, .own 99 [ptr 1, mslice 2 fs.length cap, .map (some 3)]), (1, diskI S D), (2, .lst 105 3 cap (fs.flatMap frv)), (3, mpI fs), (4, .lview (L.flatMap ftv))] 5
      (fun v h m => ∃ x : Bool × DM × (Nat → Prop), (x.1 = true ∧ UpR (L.map toX) fs x.2.1 ∧ x.2.1.OkN (N + 10)) ∧ v = .bool x.1 ∧ h = lgH fs cap x.2.2 x.2.1 ∧ m = 100) := by
  refine call_spec tabOk mixed Tryz.call33 Tryz.func33 rfl [] (fun x : Bool × DM × (Nat → Prop) => x.1 = true ∧ UpR (L.map toX) fs x.2.1 ∧ x.2.1.OkN (N + 10)) (fun x => .bool x.1) (fun x => lgH fs cap x.2.2 x.2.1) (fun _ => 100) ?_ ?_
  · exact (Nat.le_of_ble_eq_true rfl)
  have hlen := up_len hU
  rw [List.length_map] at hlen
  (repeat' ((try (conv => whnf)); first | (guard_target =~ ∃ (_ : Value), ∃ (_ : HP), ∃ (_ : HP), _; refine ⟨_, _, _, rnLogHold2, ?_⟩; (try (dsimp only [Nat.reduceAdd, List.cons_append, List.nil_append]))) | (guard_target =~ CallOb _ 19 _ _ _ _; (with_reducible refine call_inline tabOk mixed Tryz.call19 Tryz.func19 ?_ [] ?_ ?_); exact rfl; exact Nat.le_of_ble_eq_true rfl) | (guard_target =~ LoopOb _ _ _ _ _ _ _ _; first | (guard_hyp k : HK; fail) | (guard_hyp D1 : DM; refine loop_rule tabOk mixed [] 5 (fun k : HI => [(0, ptr 0), (1, mslice 4 L.length capL), (5, iv (n : Nat)), (6, .string k.w), (7, iv (k.i : Nat))]) (fun k => [(0, .own 99 [ptr 1, mslice 2 fs.length cap, .map (some 3)]), (1, diskI S1 D1), (2, .lst 105 3 cap (fs.flatMap frv)), (3, mpI fs), (4, .lview (L.flatMap ftv))]) (fun k => L.length - k.i) (fun k => k.i ≤ L.length ∧ k.w = wantS ((L.take k.i).map toX) (n : Nat)) ⟨0, ⟨#[]⟩⟩ ⟨Nat.zero_le _, want_0 L n⟩ ⟨[(0, some 0), (1, some 1), (2, some 2), (3, some 3), (4, some 4)], Sub.q cvLogHold1 (by rfl) (by rfl)⟩ (fun k hk => ?_)) | (refine loop_rule tabOk mixed [] 5 (fun k : HK => [(0, ptr 0), (1, mslice 4 L.length capL), (5, iv (k.n : Nat))]) (fun k => [(0, .own 99 [ptr 1, mslice 2 fs.length cap, .map (some 3)]), (1, diskI k.S k.D), (2, .lst 105 3 cap (fs.flatMap frv)), (3, mpI fs), (4, .lview (L.flatMap ftv))]) (fun k => 10 - k.n) (fun k => HKR (L.map toX) fs N k) ⟨0, D, S⟩ ⟨Nat.zero_le _, hU, hD.mono (by dsimp only; omega)⟩ ⟨[(0, some 0), (1, some 1), (2, some 2), (3, some 3), (4, some 4)], Sub.q cvLogHold1 (by rfl) (by rfl)⟩ (fun k hk => ?_))) | (guard_hyp k : HK; rcases k with ⟨n, D1, S1⟩; dsimp only at hk ⊢; have hkn := hk.le; have hku := hk.up; have hko := hk.ok; dsimp only at hkn hku hko) | (guard_hyp k : HI; rcases k with ⟨i, w⟩; dsimp only at hk ⊢; have hki := hk.1) | (guard_target =~ CallOb _ 28 _ _ _ _; refine call_q (number_c y) [] cvLogHold1 (by rfl) (by rfl) (by rfl) (fun v h1 n1 hp => ?_); obtain ⟨nz, hnz, rfl, rfl, rfl⟩ := hp; (try (dsimp only [Nat.reduceAdd, List.cons_append, List.nil_append]))) | (guard_target =~ CallOb _ 29 _ _ _ _; refine call_q (lpage_c y.2.1 hy8) [] cvLogHold1 (by rfl) (by rfl) (by rfl) (fun v h1 n1 hp => ?_); obtain ⟨pz, hpz, rfl, rfl, rfl⟩ := hp; (try (dsimp only [Nat.reduceAdd, List.cons_append, List.nil_append]))) | (guard_target =~ CallOb _ 24 _ _ _ _; refine call_q (lget_c fs cap S1 D1 hko (by omega) hfl (n : Nat)) [(0, some 0), (1, some 1), (2, some 2), (3, some 3)] cvLogHold1 (by rfl) (by rfl) (by rfl) (fun v h1 n1 hp => ?_); obtain ⟨⟨⟨gz, gi, ge⟩, D2, S2⟩, hg, rfl, rfl, rfl⟩ := hp; dsimp only at hg; obtain ⟨hg1, hg2, hg3, hg4⟩ := up_get hku (n : Nat) hg; have hg5 := hku.okN hg hko; (try (dsimp only [Nat.reduceAdd, List.cons_append, List.nil_append]))) | (guard_target =~ ∃ (_ : Nat), _ ∧ _; refine ⟨i, rfl, by omega, ?_⟩) | (obtain ⟨y, hy⟩ : ∃ y, L[i]? = some y := ⟨_, List.getElem?_eq_getElem (by omega)⟩; have hy8 := hL y (List.mem_of_getElem? hy); refine onS_in (sub_flat (f := ftv) (n := 4) (fun _ => rfl) hy (by omega)) ?_) | (refine onS_in (v := .int .u8 y.2.1) (by show (L.flatMap ftv)[0 + i * 4 + 1]? = _; rw [Nat.zero_add]; exact cell_ft hy (by decide) rfl) ?_) | (with_reducible refine chk_in (Nat.ble_eq_true_of_le (by omega)) ?_) | (with_reducible refine ifB_in ?_ ?_ <;> intro hb <;> (try simp only [decide_eq_true_eq, decide_eq_false_iff_not, Int.not_lt, Int.not_le, ne_eq, Decidable.not_not, Bool.not_eq_true', Bool.not_eq_false', gt_iff_lt, ge_iff_le] at hb) <;> (try (exfalso; omega))) | (with_reducible refine ⟨_, w64b _, ?_⟩) | (with_reducible refine ⟨_, w64 (by omega) (by omega), ?_⟩) | (with_reducible refine ⟨_, wu64 (by omega) (by omega), ?_⟩) | (with_reducible refine ⟨_, wu8 (by omega) (by omega), ?_⟩) | (with_reducible refine ⟨_, w64 (by (simp only [size_sfrom, ByteArray.size_extract, ByteArray.size_append, strOf_size, fixedL_length, lit_size, List.size_toArray, List.length_cons, List.length_nil, List.length_append, List.length_replicate]; omega)) (by (simp only [size_sfrom, ByteArray.size_extract, ByteArray.size_append, strOf_size, fixedL_length, lit_size, List.size_toArray, List.length_cons, List.length_nil, List.length_append, List.length_replicate]; omega)), ?_⟩) | (with_reducible refine ⟨_, rfl, ?_⟩) | (with_reducible refine ⟨rfl, ?_⟩) | (intro cap) | (with_reducible refine ⟨trivial, ?_⟩) | (guard_target =~ (planChk _ _ = true) ∧ _; refine ⟨by kernel_rfl, ?_⟩) | (guard_target =~ (_ ∧ _) ∧ _; refine ⟨by ((repeat (first | exact trivial | refine ⟨rfl, ?_⟩)); (first | done | fail)), ?_⟩) | (refine ⟨by omega, ?_⟩) | (refine ⟨by (simp only [size_sfrom, ByteArray.size_extract, ByteArray.size_append, strOf_size, fixedL_length, lit_size, List.size_toArray, List.length_cons, List.length_nil, List.length_append, List.length_replicate]; omega), ?_⟩) | (refine ⟨0, rfl, ?_⟩) | (refine ⟨1, rfl, ?_⟩) | (refine ⟨2, rfl, ?_⟩) | (refine ⟨3, rfl, ?_⟩) | (refine ⟨4, rfl, ?_⟩) | (refine ⟨5, rfl, ?_⟩) | (refine cell_at1 (by assumption) ?_) | (refine cell_in1 (by omega) (fun x hx => ?_)) | fail)) <;> (try (conv => whnf))
  all_goals first
    | (exfalso; omega)
    | (exfalso; exact hold_ne (by assumption) hk.2 hg1 (by assumption))
    | (exfalso; exact hold_is (by assumption) hk.2 hg2 hb)
    | ((refine Ends.go ((true, D1, S1)) ?_ [(0, some 0), (1, some 1), (2, some 2), (3, some 3)] (Fit.q cvLogHold1 (by rfl) (by rfl))); exact ⟨rfl, hku, hko.mono (by omega)⟩)
    | (guard_hyp hb : nz = _; (refine Again.go ((⟨i + 1, pz⟩ : HI)) ?_ (by (try dsimp only); omega) [(0, some 0), (1, some 1), (2, some 2), (3, some 3), (4, some 4)] (Sub.q cvLogHold1 (by rfl) (by rfl))); exact ⟨by dsimp only; omega, by dsimp only; rw [want_step hy, if_pos (hnz ▸ hb), hpz]⟩)
    | (guard_hyp hb : ¬ nz = _; (refine Again.go ((⟨i + 1, w⟩ : HI)) ?_ (by (try dsimp only); omega) [(0, some 0), (1, some 1), (2, some 2), (3, some 3), (4, some 4)] (Sub.q cvLogHold1 (by rfl) (by rfl))); exact ⟨by dsimp only; omega, by dsimp only; rw [want_step hy, if_neg (hnz ▸ hb)]; exact hk.2⟩)
    | ((refine Again.go ((⟨n + 1, D2, S2⟩ : HK)) ?_ (by (try dsimp only); omega) [(0, some 0), (1, some 1), (2, some 2), (3, some 3), (4, some 4)] (Sub.q cvLogHold1 (by rfl) (by rfl))); exact ⟨by dsimp only; omega, hg4, hg5.mono (by dsimp only; omega)⟩)
end Go.Proofs.YtcojbjakopkfbaaGreat
