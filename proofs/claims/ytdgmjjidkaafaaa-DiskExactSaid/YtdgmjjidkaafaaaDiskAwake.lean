/- The disk's laws: what is known by number. -/
import Derived.Test.YtdgmjjidkaafaaaDiskFs
import Derived.Test.YtdgmjjidkaafaaaDiskOn
import Derived.Test.YtdgmjjidkaafaaaDiskWriteC
import Derived.Test.YtdgmjjidkaafaaaDiskTotal
import Derived.Test.YtdgmjjidkaafaaaDiskCut
import Derived.Test.YtdgmjjidkaafaaaDiskBytes
namespace Go.Proofs.Ytdgmjjidkaafaaa
open Go.RowKit
set_option linter.unusedSimpArgs false
set_option linter.unusedVariables false
/-- A text of one byte. -/
def pgS (n : Nat) (b : Int) : ByteArray := strOf (List.replicate n (UInt8.ofNat b.toNat))
theorem pgS_size (n : Nat) (b : Int) : (pgS n b).size = n := by unfold pgS; rw [strOf_size, List.length_replicate]
abbrev fN : ByteArray := ⟨#[102]⟩
abbrev gN : ByteArray := ⟨#[103]⟩
theorem f_good : goodName fN = true := by decide
theorem beg_up {k : Dk} {s : ByteArray} (hs : goodName s = true) (h1 : k.down = false) (h2 : k.at' = 0) : begS k s true = (0, { k with ops := k.ops + 1 }) := by
  unfold begS
  rw [if_neg (by rw [hs]; simp), if_neg (by rw [h1]; decide), if_pos h2]
theorem beg_down {k : Dk} {s : ByteArray} (hs : goodName s = true) (h1 : k.down = true) : begS k s true = (10, k) := by
  unfold begS
  rw [if_neg (by rw [hs]; simp), if_pos h1]
theorem beg_bad {k : Dk} {s : ByteArray} {r : Bool} (hs : goodName s = false ∨ r = false) : begS k s r = (1, k) := by
  unfold begS
  rw [if_pos hs]
theorem found_up {k : Dk} {fs : Fs} {s : ByteArray} {X : Fl} (hs : goodName s = true) (h1 : k.down = false) (h2 : k.at' = 0) (hf : findF fs s = some X) : foundD ⟨k, fs⟩ s true = (0, ⟨{ k with ops := k.ops + 1 }, fs⟩) := by
  unfold foundD
  rw [beg_up hs h1 h2, hf]
  rfl
theorem found_no {k : Dk} {fs : Fs} {s : ByteArray} (hs : goodName s = true) (h1 : k.down = false) (h2 : k.at' = 0) (hf : findF fs s = none) : foundD ⟨k, fs⟩ s true = (14, ⟨{ k with ops := k.ops + 1 }, fs⟩) := by
  unfold foundD
  rw [beg_up hs h1 h2, hf]
  rfl
theorem right_up {i : Int} {d : ByteArray} (hi : 0 ≤ i) (hd : d.size = 256) : (decide (0 ≤ i) && decide (d.size = 256)) = true := by rw [decide_eq_true hi, decide_eq_true hd]; rfl
theorem write_up {k : Dk} {fs : Fs} {s d : ByteArray} {i : Int} {X : Fl} (hs : goodName s = true) (h1 : k.down = false) (h2 : k.at' = 0) (hf : findF fs s = some X) (hi : 0 ≤ i) (hd : d.size = 256) (hl : i ≤ X.now.length) (hr : i = X.now.length → (total fs : Int) < k.room) :
    writeD ⟨k, fs⟩ s i d = (0, ⟨{ k with ops := k.ops + 1 }, putF fs s (writeF X i.toNat d)⟩) := by
  unfold writeD
  rw [right_up hi hd, found_up hs h1 h2 hf, hf]
  dsimp only [Option.getD_some]
  rw [if_neg (by simp), if_neg (by omega), if_neg]
  rintro (⟨h, _⟩ | ⟨h, h'⟩)
  · cases h
  · have := hr h; omega
theorem write_new {k : Dk} {fs : Fs} {s d : ByteArray} (hs : goodName s = true) (h1 : k.down = false) (h2 : k.at' = 0) (hf : findF fs s = none) (hd : d.size = 256) (hl : fs.length < 8) (hr : (total fs : Int) < k.room) :
    writeD ⟨k, fs⟩ s 0 d = (0, ⟨{ k with ops := k.ops + 1 }, putF fs s ⟨[some d], [none], [true], false⟩⟩) := by
  unfold writeD
  rw [right_up (Int.le_refl 0) hd, found_no hs h1 h2 hf, hf]
  dsimp only [Option.getD_none]
  rw [if_neg (by simp), if_neg (show ¬ ((fl0.now.length : Int) < 0) by decide), if_neg]
  · rfl
  · rintro (⟨_, h⟩ | ⟨_, h⟩) <;> omega
theorem sync_up {k : Dk} {fs : Fs} {s : ByteArray} {X : Fl} (hs : goodName s = true) (h1 : k.down = false) (h2 : k.at' = 0) (hf : findF fs s = some X) : syncD ⟨k, fs⟩ s = (0, ⟨{ k with ops := k.ops + 1 }, putF fs s (syncF X)⟩) := by
  unfold syncD
  rw [found_up hs h1 h2 hf, hf]
  rfl
theorem read_up {k : Dk} {fs : Fs} {s : ByteArray} {X : Fl} {i : Int} (hs : goodName s = true) (h1 : k.down = false) (h2 : k.at' = 0) (hf : findF fs s = some X) : readD ⟨k, fs⟩ s i = (readF X i, ⟨{ k with ops := k.ops + 1 }, fs⟩) := by
  unfold readD
  rw [found_up hs h1 h2 hf, hf]
  rfl
theorem find_one {s : ByteArray} {X : Fl} : findF [(s, X)] s = some X := by rw [find_cons, if_pos rfl]
theorem put_one {s : ByteArray} {X Y : Fl} : putF [(s, X)] s Y = [(s, Y)] := put_cons_eq
/-! The run. -/
abbrev awk (ops life : Int) (down : Bool) (a k : Int) : Dk := ⟨10, down, ops, life, a, k, 0⟩
abbrev pq (b : Int) : ByteArray := pgS 256 b
def awX : Nat → Fl
  | 1 => ⟨[some (pq 1)], [none], [true], false⟩
  | 2 => ⟨[some (pq 1)], [some (some (pq 1))], [false], true⟩
  | 3 => ⟨[some (pq 2)], [some (some (pq 1))], [true], true⟩
  | 4 => ⟨[none], [some none], [false], true⟩
  | 5 => ⟨[some (pq 3)], [some none], [true], true⟩
  | 6 => ⟨[some (pq 3), some (pq 4)], [some none, none], [true, true], true⟩
  | 7 => ⟨[none, some (pq 4)], [some none, some (some (pq 4))], [false, false], true⟩
  | _ => fl0
def awD (ops life : Int) (down : Bool) (a k : Int) (x : Nat) : DM := ⟨awk ops life down a k, [(fN, awX x)]⟩
theorem aw_1 : writeD (newD 10) fN 0 (pq 1) = (0, awD 1 0 false 0 0 1) := write_new f_good rfl rfl rfl (pgS_size _ _) (by decide) (by decide)
theorem aw_2 : syncD (awD 1 0 false 0 0 1) fN = (0, awD 2 0 false 0 0 2) := (sync_up f_good rfl rfl find_one).trans (by rw [put_one]; rfl)
theorem aw_3 : writeD (awD 2 0 false 0 0 2) fN 0 (pq 2) = (0, awD 3 0 false 0 0 3) := (write_up f_good rfl rfl find_one (Int.le_refl 0) (pgS_size _ _) (by decide) (fun h => by cases h)).trans (by rw [put_one]; rfl)
theorem aw_4 : offD (awD 3 0 false 0 0 3) = awD 3 1 true 0 0 3 := rfl
theorem aw_5 : readD (awD 3 1 true 0 0 3) fN 0 = ((⟨#[]⟩, 10), awD 3 1 true 0 0 3) := by
  unfold readD foundD awD
  dsimp only
  rw [beg_down f_good rfl]
  rfl
theorem aw_6 : onD (awD 3 1 true 0 0 3) [2] = awD 3 1 false 0 0 4 := by
  unfold onD awD
  rw [if_pos rfl]
  rfl
theorem aw_7 : readD (awD 3 1 false 0 0 4) fN 0 = ((⟨#[]⟩, 13), awD 4 1 false 0 0 4) := (read_up f_good rfl rfl find_one).trans rfl
theorem aw_8 : writeD (awD 4 1 false 0 0 4) fN 0 (pq 3) = (0, awD 5 1 false 0 0 5) := (write_up f_good rfl rfl find_one (Int.le_refl 0) (pgS_size _ _) (by decide) (fun h => by cases h)).trans (by rw [put_one]; rfl)
theorem aw_9 : writeD (awD 5 1 false 0 0 5) fN 1 (pq 4) = (0, awD 6 1 false 0 0 6) := (write_up f_good rfl rfl find_one (by decide) (pgS_size _ _) (by decide) (fun h => by decide)).trans (by rw [put_one]; rfl)
theorem aw_10 : offD (awD 6 1 false 0 0 6) = awD 6 2 true 0 0 6 := rfl
theorem aw_11 : onD (awD 6 2 true 0 0 6) [0, 1] = awD 6 2 false 0 0 7 := by
  unfold onD awD
  rw [if_pos rfl]
  rfl
theorem aw_12 : readD (awD 6 2 false 0 0 7) fN 0 = ((⟨#[]⟩, 13), awD 7 2 false 0 0 7) := (read_up f_good rfl rfl find_one).trans rfl
theorem aw_13 : readD (awD 7 2 false 0 0 7) fN 1 = ((pq 4, 0), awD 8 2 false 0 0 7) := (read_up f_good rfl rfl find_one).trans rfl
theorem aw_14 : armD (awD 8 2 false 0 0 7) 1 1 0 = awD 8 2 false 1 1 7 := rfl
theorem beg_15 : begS (awk 8 2 false 1 1) fN true = (11, awk 9 2 false 0 1) := by
  unfold begS
  rw [if_neg (by rw [f_good]; simp)]
  rfl
theorem aw_15 : syncD (awD 8 2 false 1 1 7) fN = (11, awD 9 2 false 0 1 7) := by
  unfold syncD foundD awD
  dsimp only
  rw [beg_15]
  rfl
theorem aw_16 : syncD (awD 9 2 false 0 1 7) fN = (0, awD 10 2 false 0 1 7) := (sync_up f_good rfl rfl find_one).trans (by rw [put_one]; rfl)
theorem aw_17 : sizeD (awD 10 2 false 0 1 7) fN = 2 := by unfold sizeD awD; rw [find_one]; rfl
theorem aw_18 : sizeD (awD 10 2 false 0 1 7) gN = -1 := by unfold sizeD awD; rw [find_cons, if_neg (by decide), find_nil]
theorem awN : (newD 10).OkN 0 := new_okN 10
theorem aw_ok1 : (awD 1 0 false 0 0 1).OkN 1 := by have := write_okN awN fN 0 (pq 1); rwa [aw_1] at this
theorem aw_ok2 : (awD 2 0 false 0 0 2).OkN 2 := by have := sync_okN aw_ok1 fN; rwa [aw_2] at this
theorem aw_ok3 : (awD 3 0 false 0 0 3).OkN 3 := by have := write_okN aw_ok2 fN 0 (pq 2); rwa [aw_3] at this
theorem aw_ok4 : (awD 3 1 true 0 0 3).OkN 4 := off_okN aw_ok3
theorem aw_ok6 : (awD 3 1 false 0 0 4).OkN 4 := by have := on_okN aw_ok4 [2]; rwa [aw_6] at this
theorem aw_ok7 : (awD 4 1 false 0 0 4).OkN 5 := by have := read_okN aw_ok6 fN 0; rwa [aw_7] at this
theorem aw_ok8 : (awD 5 1 false 0 0 5).OkN 6 := by have := write_okN aw_ok7 fN 0 (pq 3); rwa [aw_8] at this
theorem aw_ok9 : (awD 6 1 false 0 0 6).OkN 7 := by have := write_okN aw_ok8 fN 1 (pq 4); rwa [aw_9] at this
theorem aw_ok10 : (awD 6 2 true 0 0 6).OkN 8 := off_okN aw_ok9
theorem aw_ok11 : (awD 6 2 false 0 0 7).OkN 8 := by have := on_okN aw_ok10 [0, 1]; rwa [aw_11] at this
theorem aw_ok12 : (awD 7 2 false 0 0 7).OkN 9 := by have := read_okN aw_ok11 fN 0; rwa [aw_12] at this
theorem aw_ok13 : (awD 8 2 false 0 0 7).OkN 10 := by have := read_okN aw_ok12 fN 1; rwa [aw_13] at this
theorem aw_ok14 : (awD 8 2 false 1 1 7).OkN 10 := by have := arm_okN (a := 1) (b := 1) (c := 0) aw_ok13 (by decide) (by decide) (by decide); rwa [aw_14] at this
theorem aw_ok15 : (awD 9 2 false 0 1 7).OkN 11 := by have := sync_okN aw_ok14 fN; rwa [aw_15] at this
theorem aw_ok16 : (awD 10 2 false 0 1 7).OkN 12 := by have := sync_okN aw_ok15 fN; rwa [aw_16] at this
theorem up_ok {D : DM} {n : Int} (h : D.OkN n) (hn : n ≤ 1000000) : D.Ok := h.ok (Int.lt_of_le_of_lt hn (by decide))
end Go.Proofs.Ytdgmjjidkaafaaa
namespace Go.Proofs.Ytdgmjjidkaafaaa
open Go.RowKit
set_option linter.unusedSimpArgs false
set_option linter.unusedVariables false
structure Pge (n : Nat) (b : UInt8) (L : List UInt8) (i : Nat) : Prop where
  len : L.length = n
  at' : ∀ j, j < i → L[j]? = some b
theorem Pge.set {n : Nat} {b : UInt8} {L : List UInt8} {i : Nat} (h : Pge n b L i) (hi : i < n) : Pge n b (L.set i b) (i + 1) := by
  refine ⟨by rw [List.length_set]; exact h.len, fun j hj => ?_⟩
  rw [List.getElem?_set]
  split
  · rename_i e; subst e; rw [if_pos (by rw [h.len]; exact hi)]
  · exact h.at' j (by omega)
theorem Pge.done {n : Nat} {b : UInt8} {L : List UInt8} {i : Nat} (h : Pge n b L i) (hi : n ≤ i) : L = List.replicate n b := by
  apply List.ext_getElem?
  intro j
  rcases Nat.lt_or_ge j n with hj | hj
  · rw [h.at' j (by omega), List.getElem?_replicate, if_pos hj]
  · rw [List.getElem?_eq_none (by rw [h.len]; exact hj), List.getElem?_eq_none (by rw [List.length_replicate]; exact hj)]
theorem put_byte {L : List UInt8} {i : Nat} {b : UInt8} {x : Int} (hx : x = (b.toNat : Nat)) : putL (L.map byteV') (0 + i * 1) [.int .u8 x] = (L.set i b).map byteV' := by
  subst hx
  rw [List.map_set, Nat.zero_add, Nat.mul_one]; rfl
theorem row_take {L : List UInt8} {n ty c : Nat} (h : L.length = n) : List.take n (List.drop 0 (Itm.row ty 1 c (L.map byteV')).cells) = L.map byteV' := by
  rw [List.drop_zero]; exact List.take_of_length_le (by show (L.map byteV').length ≤ n; rw [List.length_map]; omega)
theorem u8_int {b : Int} (hb : 0 ≤ b ∧ b ≤ 255) : b = ((UInt8.ofNat b.toNat).toNat : Nat) := by rw [UInt8.toNat_ofNat']; omega
structure WL where
  i : Nat
  L : List UInt8
attribute [local irreducible] bytesOf strOf strEq strLt sfrom begS
theorem blt_len {α : Type} {L : List α} {f : α → Value} {i ty sz c : Nat} (h : i < L.length) : (0 + i * 1).blt (Itm.row ty sz c (L.map f)).cells.length = true := by
  rw [Nat.zero_add, Nat.mul_one]
  show Nat.ble (i + 1) (L.map f).length = true
  exact Nat.ble_eq_true_of_le (by rw [List.length_map]; exact h)
theorem cvDiskAwake1 {p : Prop} (h : p := by have nw := True.intro; (repeat' (first | exact True.intro | (with_reducible exact rfl) | (with_reducible exact AbsLe.refl) | (guard_target =~ @Eq Nat _ _; first | exact rfl | omega) | (guard_target =~ List.map _ _ = []; exact rfl) | (first | exact covL_of (noughts_cells _) (flat_map (fun _ => rfl) _) | exact covL_of (put_byte (u8_int hb8)) (flat_map (fun _ => rfl) _) | first | exact covL_still rfl hvs | exact covL_still rfl (still_map (fun _ => rfl) _) | exact covL_still rfl (still_map ro_still _) | (apply covL_set <;> (try clear nw) <;> have nw := True.intro) | exact congrArg (Value.int _) (by (try dsimp only); omega)) | (exact congrArg (Value.int _) (by omega)) | (exact covL_flat (flat_map (fun _ => rfl) _)) | (exact covL_flat flat_nil) | (refine covP_all ?_; (try clear nw); have nw := True.intro) | (refine covL_each ?_; (try clear nw); have nw := True.intro) | (refine ⟨?_, ?_⟩ <;> (try clear nw) <;> have nw := True.intro) | (guard_hyp nw : True; ((conv => whnf) <;> clear nw)))); (first | done | fail)) : p := h
theorem rnDiskAwake2 {p : Prop} (h : p := by refine ⟨?_, ?_, ?_⟩; (first | apply rR_tuple | apply rR_one rfl | exact rfl); all_goals (repeat' (first | (with_reducible (first | exact relH_nil | apply rn_lst | apply rn_own | apply rn_mp | apply rn_row | apply rn_abs | exact wo_nil)) | apply wo_keep rfl | apply wo_drop rfl | exact relH_nil | exact r1_flat rfl | exact r0_flat rfl | exact rl_nil | exact wo_nil | exact bk_old rfl | exact bk_new rfl | exact bk_nil rfl | apply rl_cons | (first | exact relL_still hvs | exact relL_still (still_map (fun _ => rfl) _) | exact relL_still (still_map ro_still _) | exact relL_flat (flat_map (fun _ => rfl) _) | apply relL_set) | exact relL_flat (flat_map (fun _ => rfl) _) | exact relL_flat flat_nil | apply relL_to | apply rn_lst | apply rn_own | apply rn_mp | apply rn_row | apply relH_view rfl | apply relH_lview rfl | apply relH_fact rfl | exact r1_rig | exact r0_rig | exact r1_rigs | exact r0_rigs | apply wo_keep rfl | apply wo_drop rfl | apply r1_agg | apply rn_ptr | apply rn_slice | apply rn_slice0 | apply rn_iface | apply rn_map | apply rn_ifacem | apply r0_map | apply r0_ifacem | apply r0_ptr | apply r0_slice | apply r0_slice0 | apply r0_iface)); (first | done | fail)) : p := h
set_option maxRecDepth 100000 in
theorem page_c (b : Int) (hb8 : 0 ≤ b ∧ b ≤ 255) :
    CallOb Try.prog 11 [.int .u8 b] [] 0 (fun v hh m => ∃ z : ByteArray, z = pgS 256 b ∧ v = .string z ∧ hh = [] ∧ m = 0) := by
  refine call_spec tabOk mixed Try.call11 Try.func11 rfl [] (fun z : ByteArray => z = pgS 256 b) (fun z => .string z) (fun _ => []) (fun _ => 0) ?_ ?_
  · exact (Nat.le_of_ble_eq_true rfl)
  (repeat' ((try (conv => whnf)); first | (guard_target =~ ∃ (_ : Value), ∃ (_ : HP), ∃ (_ : HP), _; refine ⟨_, _, _, rnDiskAwake2, ?_⟩; (try (dsimp only [Nat.reduceAdd, List.cons_append, List.nil_append]))) | (with_reducible refine ⟨256, 256, rfl, rfl, Nat.le_refl _, by omega, by omega, ?_⟩) | (guard_target =~ LoopOb _ _ _ _ _ _ _ _; refine loop_rule tabOk mixed [] 1 (fun k => [(0, .int .u8 b), (3, .slice (some ⟨0, 0, none⟩) 256 256), (4, iv (WL.i k : Nat))]) (fun k => [(0, .row 5 1 256 ((WL.L k).map byteV'))]) (fun k => 256 - WL.i k) (fun k => WL.i k ≤ 256 ∧ Pge 256 (UInt8.ofNat b.toNat) (WL.L k) (WL.i k)) (⟨0, List.replicate 256 0⟩) (⟨Nat.zero_le _, ⟨List.length_replicate, fun j hj => absurd hj (Nat.not_lt_zero _)⟩⟩) ⟨[(0, some 0)], Sub.q cvDiskAwake1 (by rfl) (by rfl)⟩ (fun k hk => ?_)) | (rcases k with ⟨i, L⟩; dsimp only at hk ⊢) | (refine ⟨row_take hk.2.len, hk.2.len, ?_⟩) | (refine cell_in1 (by omega) (fun y hy => ?_)) | (with_reducible refine chk_in (Nat.ble_eq_true_of_le (by omega)) ?_) | (with_reducible refine ifB_in ?_ ?_ <;> intro hb <;> (try simp only [decide_eq_true_eq, decide_eq_false_iff_not, Int.not_lt, Int.not_le, ne_eq, Decidable.not_not, Bool.not_eq_true', Bool.not_eq_false', gt_iff_lt, ge_iff_le] at hb) <;> (try (exfalso; omega))) | (with_reducible refine ⟨_, w64b _, ?_⟩) | (with_reducible refine ⟨_, w64 (by omega) (by omega), ?_⟩) | (with_reducible refine ⟨_, wu64 (by omega) (by omega), ?_⟩) | (with_reducible refine ⟨_, wu8 (by omega) (by omega), ?_⟩) | (with_reducible refine ⟨_, w64 (by (simp only [size_sfrom, ByteArray.size_extract, ByteArray.size_append, strOf_size, fixedL_length, lit_size, List.size_toArray, List.length_cons, List.length_nil, List.length_append, List.length_replicate]; omega)) (by (simp only [size_sfrom, ByteArray.size_extract, ByteArray.size_append, strOf_size, fixedL_length, lit_size, List.size_toArray, List.length_cons, List.length_nil, List.length_append, List.length_replicate]; omega)), ?_⟩) | (with_reducible refine ⟨_, rfl, ?_⟩) | (with_reducible refine ⟨rfl, ?_⟩) | (intro cap) | (with_reducible refine ⟨trivial, ?_⟩) | (guard_target =~ (planChk _ _ = true) ∧ _; refine ⟨by kernel_rfl, ?_⟩) | (guard_target =~ (_ ∧ _) ∧ _; refine ⟨by ((repeat (first | exact trivial | refine ⟨rfl, ?_⟩)); (first | done | fail)), ?_⟩) | (refine ⟨by omega, ?_⟩) | (refine ⟨by (simp only [size_sfrom, ByteArray.size_extract, ByteArray.size_append, strOf_size, fixedL_length, lit_size, List.size_toArray, List.length_cons, List.length_nil, List.length_append, List.length_replicate]; omega), ?_⟩) | (refine ⟨0, rfl, ?_⟩) | (refine ⟨1, rfl, ?_⟩) | (refine ⟨2, rfl, ?_⟩) | (refine ⟨3, rfl, ?_⟩) | (refine ⟨4, rfl, ?_⟩) | (refine ⟨5, rfl, ?_⟩) | (refine cell_at1 (by assumption) ?_) | (refine cell_in1 (by omega) (fun x hx => ?_)) | fail)) <;> (try (conv => whnf))
  all_goals first
    | ((refine Again.go ((⟨i + 1, L.set i (UInt8.ofNat b.toNat)⟩ : WL)) ?_ (by (try dsimp only); omega) [(0, some 0)] (Sub.q cvDiskAwake1 (by rfl) (by rfl))); exact ⟨by dsimp only; omega, hk.2.set (by omega)⟩)
    | ((refine Ends.go (strOf L) ?_ [] (Fit.q cvDiskAwake1 (by rfl) (by rfl))); unfold pgS; rw [hk.2.done (by omega)])
    | (exfalso; exact absurd ((blt_len (L := L) (f := byteV') (i := i) (by rw [hk.2.len]; omega)).symm.trans hb) (by decide))
    | trace_state
theorem awc_1 (S : Nat → Prop) : CallOb Try.prog 10 [ptr 0, .string fN, iv 0, .string (pq 1)] [(0, diskI S (newD 10))] 1 (fun v h m => ∃ (a : Int) (S' : Nat → Prop), a = 0 ∧ v = iv a ∧ h = [(0, diskI S' (awD 1 0 false 0 0 1))] ∧ m = 20) :=
  (write_c S (newD 10) (up_ok awN (by decide)) fN 0 (pq 1) (by decide)).mono fun v h m ⟨a, D, S', hr, h1, h2, h3⟩ => by
    rw [aw_1] at hr
    cases hr
    exact ⟨_, S', rfl, h1, h2, h3⟩
theorem awc_2 (S : Nat → Prop) : CallOb Try.prog 15 [ptr 0, .string fN] [(0, diskI S (awD 1 0 false 0 0 1))] 1 (fun v h m => ∃ (a : Int) (S' : Nat → Prop), a = 0 ∧ v = iv a ∧ h = [(0, diskI S' (awD 2 0 false 0 0 2))] ∧ m = 20) :=
  (sync_c S (awD 1 0 false 0 0 1) (up_ok aw_ok1 (by decide)) fN).mono fun v h m ⟨a, D, S', hr, h1, h2, h3⟩ => by
    rw [aw_2] at hr
    cases hr
    exact ⟨_, S', rfl, h1, h2, h3⟩
theorem awc_3 (S : Nat → Prop) : CallOb Try.prog 10 [ptr 0, .string fN, iv 0, .string (pq 2)] [(0, diskI S (awD 2 0 false 0 0 2))] 1 (fun v h m => ∃ (a : Int) (S' : Nat → Prop), a = 0 ∧ v = iv a ∧ h = [(0, diskI S' (awD 3 0 false 0 0 3))] ∧ m = 20) :=
  (write_c S (awD 2 0 false 0 0 2) (up_ok aw_ok2 (by decide)) fN 0 (pq 2) (by decide)).mono fun v h m ⟨a, D, S', hr, h1, h2, h3⟩ => by
    rw [aw_3] at hr
    cases hr
    exact ⟨_, S', rfl, h1, h2, h3⟩
theorem awc_4 (S : Nat → Prop) : CallOb Try.prog 10 [ptr 0, .string fN, iv 0, .string (pq 3)] [(0, diskI S (awD 4 1 false 0 0 4))] 1 (fun v h m => ∃ (a : Int) (S' : Nat → Prop), a = 0 ∧ v = iv a ∧ h = [(0, diskI S' (awD 5 1 false 0 0 5))] ∧ m = 20) :=
  (write_c S (awD 4 1 false 0 0 4) (up_ok aw_ok7 (by decide)) fN 0 (pq 3) (by decide)).mono fun v h m ⟨a, D, S', hr, h1, h2, h3⟩ => by
    rw [aw_8] at hr
    cases hr
    exact ⟨_, S', rfl, h1, h2, h3⟩
theorem awc_5 (S : Nat → Prop) : CallOb Try.prog 10 [ptr 0, .string fN, iv 1, .string (pq 4)] [(0, diskI S (awD 5 1 false 0 0 5))] 1 (fun v h m => ∃ (a : Int) (S' : Nat → Prop), a = 0 ∧ v = iv a ∧ h = [(0, diskI S' (awD 6 1 false 0 0 6))] ∧ m = 20) :=
  (write_c S (awD 5 1 false 0 0 5) (up_ok aw_ok8 (by decide)) fN 1 (pq 4) (by decide)).mono fun v h m ⟨a, D, S', hr, h1, h2, h3⟩ => by
    rw [aw_9] at hr
    cases hr
    exact ⟨_, S', rfl, h1, h2, h3⟩
theorem awc_6 (S : Nat → Prop) : CallOb Try.prog 15 [ptr 0, .string fN] [(0, diskI S (awD 8 2 false 1 1 7))] 1 (fun v h m => ∃ (a : Int) (S' : Nat → Prop), a = 11 ∧ v = iv a ∧ h = [(0, diskI S' (awD 9 2 false 0 1 7))] ∧ m = 20) :=
  (sync_c S (awD 8 2 false 1 1 7) (up_ok aw_ok14 (by decide)) fN).mono fun v h m ⟨a, D, S', hr, h1, h2, h3⟩ => by
    rw [aw_15] at hr
    cases hr
    exact ⟨_, S', rfl, h1, h2, h3⟩
theorem awc_7 (S : Nat → Prop) : CallOb Try.prog 15 [ptr 0, .string fN] [(0, diskI S (awD 9 2 false 0 1 7))] 1 (fun v h m => ∃ (a : Int) (S' : Nat → Prop), a = 0 ∧ v = iv a ∧ h = [(0, diskI S' (awD 10 2 false 0 1 7))] ∧ m = 20) :=
  (sync_c S (awD 9 2 false 0 1 7) (up_ok aw_ok15 (by decide)) fN).mono fun v h m ⟨a, D, S', hr, h1, h2, h3⟩ => by
    rw [aw_16] at hr
    cases hr
    exact ⟨_, S', rfl, h1, h2, h3⟩
theorem awc_8 (S : Nat → Prop) : CallOb Try.prog 20 [ptr 0, .string fN, iv 0] [(0, diskI S (awD 3 1 true 0 0 3))] 1 (fun v h m => ∃ (s : ByteArray) (a : Int) (S' : Nat → Prop), (s = ⟨#[]⟩ ∧ a = 10) ∧ v = .tuple #[.string s, iv a] ∧ h = [(0, diskI S' (awD 3 1 true 0 0 3))] ∧ m = 20) :=
  (read_c S (awD 3 1 true 0 0 3) (up_ok aw_ok4 (by decide)) fN 0 (by decide)).mono fun v h m ⟨a, D, S', hr, h1, h2, h3⟩ => by
    rw [aw_5] at hr
    cases hr
    exact ⟨_, _, S', ⟨rfl, rfl⟩, h1, h2, h3⟩
theorem awc_9 (S : Nat → Prop) : CallOb Try.prog 20 [ptr 0, .string fN, iv 0] [(0, diskI S (awD 3 1 false 0 0 4))] 1 (fun v h m => ∃ (s : ByteArray) (a : Int) (S' : Nat → Prop), (s = ⟨#[]⟩ ∧ a = 13) ∧ v = .tuple #[.string s, iv a] ∧ h = [(0, diskI S' (awD 4 1 false 0 0 4))] ∧ m = 20) :=
  (read_c S (awD 3 1 false 0 0 4) (up_ok aw_ok6 (by decide)) fN 0 (by decide)).mono fun v h m ⟨a, D, S', hr, h1, h2, h3⟩ => by
    rw [aw_7] at hr
    cases hr
    exact ⟨_, _, S', ⟨rfl, rfl⟩, h1, h2, h3⟩
theorem awc_10 (S : Nat → Prop) : CallOb Try.prog 20 [ptr 0, .string fN, iv 0] [(0, diskI S (awD 6 2 false 0 0 7))] 1 (fun v h m => ∃ (s : ByteArray) (a : Int) (S' : Nat → Prop), (s = ⟨#[]⟩ ∧ a = 13) ∧ v = .tuple #[.string s, iv a] ∧ h = [(0, diskI S' (awD 7 2 false 0 0 7))] ∧ m = 20) :=
  (read_c S (awD 6 2 false 0 0 7) (up_ok aw_ok11 (by decide)) fN 0 (by decide)).mono fun v h m ⟨a, D, S', hr, h1, h2, h3⟩ => by
    rw [aw_12] at hr
    cases hr
    exact ⟨_, _, S', ⟨rfl, rfl⟩, h1, h2, h3⟩
theorem awc_11 (S : Nat → Prop) : CallOb Try.prog 20 [ptr 0, .string fN, iv 1] [(0, diskI S (awD 7 2 false 0 0 7))] 1 (fun v h m => ∃ (s : ByteArray) (a : Int) (S' : Nat → Prop), (s = pq 4 ∧ a = 0) ∧ v = .tuple #[.string s, iv a] ∧ h = [(0, diskI S' (awD 8 2 false 0 0 7))] ∧ m = 20) :=
  (read_c S (awD 7 2 false 0 0 7) (up_ok aw_ok12 (by decide)) fN 1 (by decide)).mono fun v h m ⟨a, D, S', hr, h1, h2, h3⟩ => by
    rw [aw_13] at hr
    cases hr
    exact ⟨_, _, S', ⟨rfl, rfl⟩, h1, h2, h3⟩
theorem awc_12 (S : Nat → Prop) : CallOb Try.prog 21 [ptr 0] [(0, diskI S (awD 3 0 false 0 0 3))] 1 (fun v h m => ∃ (S' : Nat → Prop), True ∧ v = .tuple ([] : List Value).toArray ∧ h = [(0, diskI S' (awD 3 1 true 0 0 3))] ∧ m = 20) :=
  (offd_c S (awD 3 0 false 0 0 3) (up_ok aw_ok3 (by decide))).mono fun v h m ⟨a, D, S', hr, h1, h2, h3⟩ => by
    rw [aw_4] at hr
    cases hr
    exact ⟨S', trivial, h1, h2, h3⟩
theorem awc_13 (S : Nat → Prop) : CallOb Try.prog 21 [ptr 0] [(0, diskI S (awD 6 1 false 0 0 6))] 1 (fun v h m => ∃ (S' : Nat → Prop), True ∧ v = .tuple ([] : List Value).toArray ∧ h = [(0, diskI S' (awD 6 2 true 0 0 6))] ∧ m = 20) :=
  (offd_c S (awD 6 1 false 0 0 6) (up_ok aw_ok9 (by decide))).mono fun v h m ⟨a, D, S', hr, h1, h2, h3⟩ => by
    rw [aw_10] at hr
    cases hr
    exact ⟨S', trivial, h1, h2, h3⟩
theorem awc_14 (S : Nat → Prop) : CallOb Try.prog 12 [ptr 0, iv 1, iv 1, iv 0] [(0, diskI S (awD 8 2 false 0 0 7))] 1 (fun v h m => ∃ (S' : Nat → Prop), True ∧ v = .tuple ([] : List Value).toArray ∧ h = [(0, diskI S' (awD 8 2 false 1 1 7))] ∧ m = 20) :=
  (arm_c S (awD 8 2 false 0 0 7) (up_ok aw_ok13 (by decide)) 1 1 0 (by decide)).mono fun v h m ⟨a, D, S', hr, h1, h2, h3⟩ => by
    rw [aw_14] at hr
    cases hr
    exact ⟨S', trivial, h1, h2, h3⟩
end Go.Proofs.Ytdgmjjidkaafaaa
namespace Go.Proofs.Ytdgmjjidkaafaaa
open Go.RowKit
set_option linter.unusedSimpArgs false
set_option linter.unusedVariables false
attribute [local irreducible] bytesOf strOf strEq strLt sfrom begS pgS awD newD
theorem awc_20 (S : Nat → Prop) (cap : Nat) : CallOb Try.prog 22 [ptr 0, mslice 1 1 cap] [(0, diskI S (awD 3 1 true 0 0 3)), (1, .lview [iv 2])] 2 (fun v h m => ∃ (S' : Nat → Prop), True ∧ v = .tuple ([] : List Value).toArray ∧ h = [(0, diskI S' (awD 3 1 false 0 0 4))] ∧ m = 20) :=
  (on_c S (awD 3 1 true 0 0 3) (up_ok aw_ok4 (by decide)) [2] cap (by decide)).mono fun v h m ⟨a, D, S', hr, h1, h2, h3⟩ => by
    rw [aw_6] at hr
    cases hr
    exact ⟨S', trivial, h1, h2, h3⟩
theorem awc_21 (S : Nat → Prop) (cap : Nat) : CallOb Try.prog 22 [ptr 0, mslice 1 2 cap] [(0, diskI S (awD 6 2 true 0 0 6)), (1, .lview [iv 0, iv 1])] 2 (fun v h m => ∃ (S' : Nat → Prop), True ∧ v = .tuple ([] : List Value).toArray ∧ h = [(0, diskI S' (awD 6 2 false 0 0 7))] ∧ m = 20) :=
  (on_c S (awD 6 2 true 0 0 6) (up_ok aw_ok10 (by decide)) [0, 1] cap (by decide)).mono fun v h m ⟨a, D, S', hr, h1, h2, h3⟩ => by
    rw [aw_11] at hr
    cases hr
    exact ⟨S', trivial, h1, h2, h3⟩
theorem awc_22 (S : Nat → Prop) : CallOb Try.prog 18 [ptr 0, .string fN] [(0, diskI S (awD 10 2 false 0 1 7))] 1 (fun v h m => ∃ (a : Int) (S' : Nat → Prop), a = 2 ∧ v = iv a ∧ h = [(0, diskI S' (awD 10 2 false 0 1 7))] ∧ m = 20) :=
  (size_c S (awD 10 2 false 0 1 7) (up_ok aw_ok16 (by decide)) fN).mono fun v h m ⟨a, D, S', hr, h1, h2, h3⟩ => by
    obtain ⟨rfl, rfl⟩ := hr
    exact ⟨_, S', aw_17, h1, h2, h3⟩
theorem awc_23 (S : Nat → Prop) : CallOb Try.prog 18 [ptr 0, .string gN] [(0, diskI S (awD 10 2 false 0 1 7))] 1 (fun v h m => ∃ (a : Int) (S' : Nat → Prop), a = -1 ∧ v = iv a ∧ h = [(0, diskI S' (awD 10 2 false 0 1 7))] ∧ m = 20) :=
  (size_c S (awD 10 2 false 0 1 7) (up_ok aw_ok16 (by decide)) gN).mono fun v h m ⟨a, D, S', hr, h1, h2, h3⟩ => by
    obtain ⟨rfl, rfl⟩ := hr
    exact ⟨_, S', aw_18, h1, h2, h3⟩
theorem awc_24 (S : Nat → Prop) : CallOb Try.prog 13 [ptr 0] [(0, diskI S (awD 10 2 false 0 1 7))] 1 (fun v h m => ∃ (a : Int) (S' : Nat → Prop), a = 10 ∧ v = iv a ∧ h = [(0, diskI S' (awD 10 2 false 0 1 7))] ∧ m = 20) :=
  (ops_c S (awD 10 2 false 0 1 7) (up_ok aw_ok16 (by decide))).mono fun v h m ⟨a, D, S', hr, h1, h2, h3⟩ => by
    obtain ⟨rfl, rfl⟩ := hr
    exact ⟨_, S', by unfold awD; rfl, h1, h2, h3⟩
theorem awc_25 (S : Nat → Prop) : CallOb Try.prog 28 [ptr 0] [(0, diskI S (awD 10 2 false 0 1 7))] 1 (fun v h m => ∃ (a : Int) (S' : Nat → Prop), a = 2 ∧ v = iv a ∧ h = [(0, diskI S' (awD 10 2 false 0 1 7))] ∧ m = 20) :=
  (life_c S (awD 10 2 false 0 1 7) (up_ok aw_ok16 (by decide))).mono fun v h m ⟨a, D, S', hr, h1, h2, h3⟩ => by
    obtain ⟨rfl, rfl⟩ := hr
    exact ⟨_, S', by unfold awD; rfl, h1, h2, h3⟩
theorem cvDiskAwake3 {p : Prop} (h : p := by have nw := True.intro; (repeat' (first | exact True.intro | (with_reducible exact rfl) | (with_reducible exact AbsLe.refl) | (guard_target =~ @Eq Nat _ _; first | exact rfl | omega) | (guard_target =~ List.map _ _ = []; exact rfl) | (first | exact covL_still rfl hvs | exact covL_still rfl (still_map (fun _ => rfl) _) | exact covL_still rfl (still_map ro_still _) | (apply covL_set <;> (try clear nw) <;> have nw := True.intro) | exact congrArg (Value.int _) (by (try dsimp only); omega)) | (exact congrArg (Value.int _) (by omega)) | (exact covL_flat (flat_map (fun _ => rfl) _)) | (exact covL_flat flat_nil) | (refine covP_all ?_; (try clear nw); have nw := True.intro) | (refine covL_each ?_; (try clear nw); have nw := True.intro) | (refine ⟨?_, ?_⟩ <;> (try clear nw) <;> have nw := True.intro) | (guard_hyp nw : True; ((conv => whnf) <;> clear nw)))); (first | done | fail)) : p := h
set_option maxRecDepth 100000 in
set_option maxHeartbeats 4000000 in
theorem awakeK_c : CallOb Try.prog 8 [] [] 0 (fun v hh m => ∃ z : Bool, z = true ∧ v = .bool z ∧ hh = [] ∧ m = 0) := by
  refine call_spec tabOk mixed Try.call8 Try.func8 rfl [] (fun z : Bool => z = true) (fun z => .bool z) (fun _ => []) (fun _ => 0) ?_ ?_
  · exact (Nat.le_of_ble_eq_true rfl)
  (repeat' ((try (conv => whnf)); first | (guard_target =~ ∃ (_ : Value), ∃ (_ : HP), ∃ (_ : HP), _; refine ⟨_, _, _, rnDiskAwake2, ?_⟩; (try (dsimp only [Nat.reduceAdd, List.cons_append, List.nil_append]))) | (guard_target =~ CallOb _ 9 _ _ _ _; refine call_q (new_c 10 (by decide)) [] cvDiskAwake3 (by rfl) (by rfl) (by rfl) (fun v h1 n1 hp => ?_); obtain ⟨D, S, rfl, rfl, rfl, rfl⟩ := hp; (try (dsimp only [Nat.reduceAdd, List.cons_append, List.nil_append]))) | (guard_target =~ CallOb _ 11 _ _ _ _; first | (refine call_q (page_c 1 (by decide)) [] cvDiskAwake3 (by rfl) (by rfl) (by rfl) (fun v h1 n1 hp => ?_); obtain ⟨_, rfl, rfl, rfl, rfl⟩ := hp; (try (dsimp only [Nat.reduceAdd, List.cons_append, List.nil_append]))) | (refine call_q (page_c 2 (by decide)) [] cvDiskAwake3 (by rfl) (by rfl) (by rfl) (fun v h1 n1 hp => ?_); obtain ⟨_, rfl, rfl, rfl, rfl⟩ := hp; (try (dsimp only [Nat.reduceAdd, List.cons_append, List.nil_append]))) | (refine call_q (page_c 3 (by decide)) [] cvDiskAwake3 (by rfl) (by rfl) (by rfl) (fun v h1 n1 hp => ?_); obtain ⟨_, rfl, rfl, rfl, rfl⟩ := hp; (try (dsimp only [Nat.reduceAdd, List.cons_append, List.nil_append]))) | (refine call_q (page_c 4 (by decide)) [] cvDiskAwake3 (by rfl) (by rfl) (by rfl) (fun v h1 n1 hp => ?_); obtain ⟨_, rfl, rfl, rfl, rfl⟩ := hp; (try (dsimp only [Nat.reduceAdd, List.cons_append, List.nil_append])))) | (guard_target =~ CallOb _ 10 _ _ _ _; refine call_q (awc_1 S) [(0, some 0)] cvDiskAwake3 (by rfl) (by rfl) (by rfl) (fun v h1 n1 hp => ?_); obtain ⟨e1, S, he1, rfl, rfl, rfl⟩ := hp; (try (dsimp only [Nat.reduceAdd, List.cons_append, List.nil_append]))) | (guard_target =~ CallOb _ 15 _ _ _ _; refine call_q (awc_2 S) [(0, some 0)] cvDiskAwake3 (by rfl) (by rfl) (by rfl) (fun v h1 n1 hp => ?_); obtain ⟨e2, S, he2, rfl, rfl, rfl⟩ := hp; (try (dsimp only [Nat.reduceAdd, List.cons_append, List.nil_append]))) | (guard_target =~ CallOb _ 10 _ _ _ _; refine call_q (awc_3 S) [(0, some 0)] cvDiskAwake3 (by rfl) (by rfl) (by rfl) (fun v h1 n1 hp => ?_); obtain ⟨e3, S, he3, rfl, rfl, rfl⟩ := hp; (try (dsimp only [Nat.reduceAdd, List.cons_append, List.nil_append]))) | (guard_target =~ CallOb _ 10 _ _ _ _; refine call_q (awc_4 S) [(0, some 0)] cvDiskAwake3 (by rfl) (by rfl) (by rfl) (fun v h1 n1 hp => ?_); obtain ⟨e4, S, he4, rfl, rfl, rfl⟩ := hp; (try (dsimp only [Nat.reduceAdd, List.cons_append, List.nil_append]))) | (guard_target =~ CallOb _ 10 _ _ _ _; refine call_q (awc_5 S) [(0, some 0)] cvDiskAwake3 (by rfl) (by rfl) (by rfl) (fun v h1 n1 hp => ?_); obtain ⟨e5, S, he5, rfl, rfl, rfl⟩ := hp; (try (dsimp only [Nat.reduceAdd, List.cons_append, List.nil_append]))) | (guard_target =~ CallOb _ 15 _ _ _ _; refine call_q (awc_6 S) [(0, some 0)] cvDiskAwake3 (by rfl) (by rfl) (by rfl) (fun v h1 n1 hp => ?_); obtain ⟨e6, S, he6, rfl, rfl, rfl⟩ := hp; (try (dsimp only [Nat.reduceAdd, List.cons_append, List.nil_append]))) | (guard_target =~ CallOb _ 15 _ _ _ _; refine call_q (awc_7 S) [(0, some 0)] cvDiskAwake3 (by rfl) (by rfl) (by rfl) (fun v h1 n1 hp => ?_); obtain ⟨e7, S, he7, rfl, rfl, rfl⟩ := hp; (try (dsimp only [Nat.reduceAdd, List.cons_append, List.nil_append]))) | (guard_target =~ CallOb _ 20 _ _ _ _; refine call_q (awc_8 S) [(0, some 0)] cvDiskAwake3 (by rfl) (by rfl) (by rfl) (fun v h1 n1 hp => ?_); obtain ⟨s8, e8, S, he8, rfl, rfl, rfl⟩ := hp; (try (dsimp only [Nat.reduceAdd, List.cons_append, List.nil_append]))) | (guard_target =~ CallOb _ 20 _ _ _ _; refine call_q (awc_9 S) [(0, some 0)] cvDiskAwake3 (by rfl) (by rfl) (by rfl) (fun v h1 n1 hp => ?_); obtain ⟨s9, e9, S, he9, rfl, rfl, rfl⟩ := hp; (try (dsimp only [Nat.reduceAdd, List.cons_append, List.nil_append]))) | (guard_target =~ CallOb _ 20 _ _ _ _; refine call_q (awc_10 S) [(0, some 0)] cvDiskAwake3 (by rfl) (by rfl) (by rfl) (fun v h1 n1 hp => ?_); obtain ⟨s10, e10, S, he10, rfl, rfl, rfl⟩ := hp; (try (dsimp only [Nat.reduceAdd, List.cons_append, List.nil_append]))) | (guard_target =~ CallOb _ 20 _ _ _ _; refine call_q (awc_11 S) [(0, some 0)] cvDiskAwake3 (by rfl) (by rfl) (by rfl) (fun v h1 n1 hp => ?_); obtain ⟨s11, e11, S, he11, rfl, rfl, rfl⟩ := hp; (try (dsimp only [Nat.reduceAdd, List.cons_append, List.nil_append]))) | (guard_target =~ CallOb _ 21 _ _ _ _; refine call_q (awc_12 S) [(0, some 0)] cvDiskAwake3 (by rfl) (by rfl) (by rfl) (fun v h1 n1 hp => ?_); obtain ⟨S, _, rfl, rfl, rfl⟩ := hp; (try (dsimp only [Nat.reduceAdd, List.cons_append, List.nil_append]))) | (guard_target =~ CallOb _ 21 _ _ _ _; refine call_q (awc_13 S) [(0, some 0)] cvDiskAwake3 (by rfl) (by rfl) (by rfl) (fun v h1 n1 hp => ?_); obtain ⟨S, _, rfl, rfl, rfl⟩ := hp; (try (dsimp only [Nat.reduceAdd, List.cons_append, List.nil_append]))) | (guard_target =~ CallOb _ 12 _ _ _ _; refine call_q (awc_14 S) [(0, some 0)] cvDiskAwake3 (by rfl) (by rfl) (by rfl) (fun v h1 n1 hp => ?_); obtain ⟨S, _, rfl, rfl, rfl⟩ := hp; (try (dsimp only [Nat.reduceAdd, List.cons_append, List.nil_append]))) | (guard_target =~ CallOb _ 22 _ _ _ _; refine call_q (awc_20 S 1) [(0, some 0), (1, some _)] cvDiskAwake3 (by rfl) (by rfl) (by rfl) (fun v h1 n1 hp => ?_); obtain ⟨S, _, rfl, rfl, rfl⟩ := hp; (try (dsimp only [Nat.reduceAdd, List.cons_append, List.nil_append]))) | (guard_target =~ CallOb _ 22 _ _ _ _; refine call_q (awc_21 S 2) [(0, some 0), (1, some _)] cvDiskAwake3 (by rfl) (by rfl) (by rfl) (fun v h1 n1 hp => ?_); obtain ⟨S, _, rfl, rfl, rfl⟩ := hp; (try (dsimp only [Nat.reduceAdd, List.cons_append, List.nil_append]))) | (guard_target =~ CallOb _ 18 _ _ _ _; refine call_q (awc_22 S) [(0, some 0)] cvDiskAwake3 (by rfl) (by rfl) (by rfl) (fun v h1 n1 hp => ?_); obtain ⟨e22, S, he22, rfl, rfl, rfl⟩ := hp; (try (dsimp only [Nat.reduceAdd, List.cons_append, List.nil_append]))) | (guard_target =~ CallOb _ 18 _ _ _ _; refine call_q (awc_23 S) [(0, some 0)] cvDiskAwake3 (by rfl) (by rfl) (by rfl) (fun v h1 n1 hp => ?_); obtain ⟨e23, S, he23, rfl, rfl, rfl⟩ := hp; (try (dsimp only [Nat.reduceAdd, List.cons_append, List.nil_append]))) | (guard_target =~ CallOb _ 13 _ _ _ _; refine call_q (awc_24 S) [(0, some 0)] cvDiskAwake3 (by rfl) (by rfl) (by rfl) (fun v h1 n1 hp => ?_); obtain ⟨e24, S, he24, rfl, rfl, rfl⟩ := hp; (try (dsimp only [Nat.reduceAdd, List.cons_append, List.nil_append]))) | (guard_target =~ CallOb _ 28 _ _ _ _; refine call_q (awc_25 S) [(0, some 0)] cvDiskAwake3 (by rfl) (by rfl) (by rfl) (fun v h1 n1 hp => ?_); obtain ⟨e25, S, he25, rfl, rfl, rfl⟩ := hp; (try (dsimp only [Nat.reduceAdd, List.cons_append, List.nil_append]))) | (with_reducible refine chk_in (Nat.ble_eq_true_of_le (by omega)) ?_) | (with_reducible refine ifB_in ?_ ?_ <;> intro hb <;> (try simp only [decide_eq_true_eq, decide_eq_false_iff_not, Int.not_lt, Int.not_le, ne_eq, Decidable.not_not, Bool.not_eq_true', Bool.not_eq_false', gt_iff_lt, ge_iff_le] at hb) <;> (try (exfalso; omega))) | (with_reducible refine ⟨_, w64b _, ?_⟩) | (with_reducible refine ⟨_, w64 (by omega) (by omega), ?_⟩) | (with_reducible refine ⟨_, wu64 (by omega) (by omega), ?_⟩) | (with_reducible refine ⟨_, wu8 (by omega) (by omega), ?_⟩) | (with_reducible refine ⟨_, w64 (by (simp only [size_sfrom, ByteArray.size_extract, ByteArray.size_append, strOf_size, fixedL_length, lit_size, List.size_toArray, List.length_cons, List.length_nil, List.length_append, List.length_replicate]; omega)) (by (simp only [size_sfrom, ByteArray.size_extract, ByteArray.size_append, strOf_size, fixedL_length, lit_size, List.size_toArray, List.length_cons, List.length_nil, List.length_append, List.length_replicate]; omega)), ?_⟩) | (with_reducible refine ⟨_, rfl, ?_⟩) | (with_reducible refine ⟨rfl, ?_⟩) | (intro cap) | (with_reducible refine ⟨trivial, ?_⟩) | (guard_target =~ (planChk _ _ = true) ∧ _; refine ⟨by kernel_rfl, ?_⟩) | (guard_target =~ (_ ∧ _) ∧ _; refine ⟨by ((repeat (first | exact trivial | refine ⟨rfl, ?_⟩)); (first | done | fail)), ?_⟩) | (refine ⟨by omega, ?_⟩) | (refine ⟨by (simp only [size_sfrom, ByteArray.size_extract, ByteArray.size_append, strOf_size, fixedL_length, lit_size, List.size_toArray, List.length_cons, List.length_nil, List.length_append, List.length_replicate]; omega), ?_⟩) | (refine ⟨0, rfl, ?_⟩) | (refine ⟨1, rfl, ?_⟩) | (refine ⟨2, rfl, ?_⟩) | (refine ⟨3, rfl, ?_⟩) | (refine ⟨4, rfl, ?_⟩) | (refine ⟨5, rfl, ?_⟩) | (refine cell_at1 (by assumption) ?_) | (refine cell_in1 (by omega) (fun x hx => ?_)) | fail)) <;> (try (conv => whnf))
  all_goals first
    | ((refine Ends.go (decide (e25 = 2)) ?_ [] (Fit.q cvDiskAwake3 (by rfl) (by rfl))); exact decide_eq_true he25)
    | (exfalso; rw [he11.1] at hb; exact absurd (strEq_true.2 rfl) (by rw [hb]; decide))
    | trace_state
end Go.Proofs.Ytdgmjjidkaafaaa
