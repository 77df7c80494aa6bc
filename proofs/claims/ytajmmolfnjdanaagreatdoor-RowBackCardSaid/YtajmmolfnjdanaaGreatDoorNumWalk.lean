/- The walks through the layer num. -/
import Derived.Test.YtajmmolfnjdanaaGreatDoorRows
import Derived.Test.YtajmmolfnjdanaaGreatDoorNumPure
import Derived.Test.YtajmmolfnjdanaaGreatDoorBytes
namespace Go.Proofs.YtajmmolfnjdanaaGreatDoor
open Go.RowKit

theorem xor_ones (X : Nat) (h : X < 18446744073709551616) : (BitVec.ofInt 64 (X : Int) ^^^ BitVec.ofInt 64 (-1)).toNat = 18446744073709551615 - X := by
  have e : BitVec.ofInt 64 (-1) = BitVec.allOnes 64 := by decide
  rw [e, BitVec.xor_allOnes, BitVec.toNat_not, BitVec.ofInt_natCast, BitVec.toNat_ofNat, Nat.mod_eq_of_lt (by simpa using h)]
theorem i64_xor_ones (X : Nat) (h : X < 9223372036854775808) : bits BinOp.xor IntKind.i64 (X : Int) (-1) = -(X : Int) - 1 := by
  show IntKind.i64.wrap ((BitVec.ofInt 64 (X : Int) ^^^ BitVec.ofInt 64 (-1)).toNat : Int) = _
  rw [xor_ones X (by omega), IntKind.wrap_i64]
  omega
theorem i64_xor_zero (X : Nat) (h : X < 9223372036854775808) : bits BinOp.xor IntKind.i64 (X : Int) 0 = (X : Int) := by
  show IntKind.i64.wrap ((BitVec.ofInt 64 (X : Int) ^^^ BitVec.ofInt 64 0).toNat : Int) = _
  have e : BitVec.ofInt 64 0 = 0#64 := by decide
  rw [e, BitVec.xor_zero, BitVec.ofInt_natCast, BitVec.toNat_ofNat, Nat.mod_eq_of_lt (by simp; omega), IntKind.wrap_i64]
  omega
theorem fold_val (n : Int) (h : -9223372036854775808 ≤ n) (h' : n ≤ 9223372036854775807) :
    bits BinOp.xor IntKind.u64 (IntKind.u64.wrap (IntKind.u64.wrap n * 2)) (IntKind.u64.wrap (n / 9223372036854775808)) = ((foldI n : Nat) : Int) := by
  by_cases h0 : 0 ≤ n
  · obtain ⟨X, rfl⟩ := Int.eq_ofNat_of_zero_le h0
    have e1 : IntKind.u64.wrap (IntKind.u64.wrap (X : Int) * 2) = ((2 * X : Nat) : Int) := by rw [IntKind.wrap_u64, IntKind.wrap_u64]; omega
    have e2 : IntKind.u64.wrap ((X : Int) / 9223372036854775808) = ((0 : Nat) : Int) := by rw [IntKind.wrap_u64]; omega
    rw [e1, e2, u64_xor_nat _ _ (by omega) (by omega), Nat.xor_zero]
    unfold foldI; rw [if_pos h0]; omega
  · have e1 : IntKind.u64.wrap (IntKind.u64.wrap n * 2) = (((18446744073709551616 + 2 * n).toNat : Nat) : Int) := by rw [IntKind.wrap_u64, IntKind.wrap_u64]; omega
    have e2 : IntKind.u64.wrap (n / 9223372036854775808) = ((18446744073709551615 : Nat) : Int) := by rw [IntKind.wrap_u64]; omega
    have hlt : (18446744073709551616 + 2 * n).toNat < 18446744073709551616 := by omega
    rw [e1, e2]
    show IntKind.u64.wrap ((BitVec.ofInt 64 _ ^^^ BitVec.ofInt 64 _).toNat : Int) = _
    have e3 : BitVec.ofInt 64 ((18446744073709551615 : Nat) : Int) = BitVec.ofInt 64 (-1) := by decide
    rw [e3, xor_ones _ hlt, IntKind.wrap_u64]
    unfold foldI; rw [if_neg h0]; omega
theorem unfold_val (n : Int) (h : U64 n) :
    bits BinOp.xor IntKind.i64 (wrap64 (n / 2)) (wrap64 (-wrap64 (bits BinOp.and IntKind.u64 n 1))) = unfoldN n.toNat := by
  obtain ⟨X, rfl⟩ := Int.eq_ofNat_of_zero_le h.1
  have hX := h.2
  have e1 : bits BinOp.and IntKind.u64 (X : Int) 1 = ((X % 2 : Nat) : Int) := by
    rw [u64_and _ _ (by omega) (by omega) (by decide) (by decide)]
    show ((X &&& 1 : Nat) : Int) = _
    rw [nat_mask1]
  have e2 : wrap64 ((X : Int) / 2) = ((X / 2 : Nat) : Int) := by unfold wrap64; omega
  rw [e1, e2]
  by_cases h2 : X % 2 = 0
  · have e3 : wrap64 (-wrap64 ((X % 2 : Nat) : Int)) = 0 := by unfold wrap64; omega
    rw [e3, i64_xor_zero _ (by omega)]
    unfold unfoldN; rw [Int.toNat_natCast, if_pos h2]
  · have e3 : wrap64 (-wrap64 ((X % 2 : Nat) : Int)) = -1 := by unfold wrap64; omega
    rw [e3, i64_xor_ones _ (by omega)]
    unfold unfoldN; rw [Int.toNat_natCast, if_neg h2]
theorem fold_any (n : Int) (w : World) (h : -9223372036854775808 ≤ n) (h' : n ≤ 9223372036854775807) :
    Calls Tryz.prog 28 #[.int .i64 n] w fun e w' => e = .returned (.int .u64 (foldI n : Nat)) ∧ w = w' := by
  go_enter Tryz.func28, Tryz.ntmps28
  go_wp2
  go_ret
  exact ⟨ret_int (fold_val n h h'), rfl⟩
theorem unfold_any (n : Int) (w : World) (h : U64 n) :
    Calls Tryz.prog 71 #[.int .u64 n] w fun e w' => e = .returned (.int .i64 (unfoldN n.toNat)) ∧ w = w' := by
  go_enter Tryz.func71, Tryz.ntmps71
  go_wp2
  go_ret
  exact ⟨ret_int (unfold_val n h), rfl⟩
theorem rfold_any (n : Int) (w : World) (h : -9223372036854775808 ≤ n) (h' : n ≤ 9223372036854775807) :
    Calls Tryz.prog 31 #[.int .i64 n] w fun e w' => e = .returned (.int .u64 (foldI n : Nat)) ∧ w = w' := by
  by_cases h0 : 0 ≤ n
  · go_enter Tryz.func31, Tryz.ntmps31
    go_wp2
    go_ret
    exact ⟨ret_int (by unfold foldI; rw [if_pos h0]; omega), rfl⟩
  · go_enter Tryz.func31, Tryz.ntmps31
    go_wp2
    go_ret
    exact ⟨ret_int (by unfold foldI; rw [if_neg (by omega)]; omega), rfl⟩
theorem runfold_any (n : Int) (w : World) (h : U64 n) :
    Calls Tryz.prog 73 #[.int .u64 n] w fun e w' => e = .returned (.int .i64 (unfoldN n.toNat)) ∧ w = w' := by
  have h0 := h.1
  have hX := h.2
  have ht : IntKind.u64.wrap (n.tdiv 2) = n / 2 := by rw [Int.tdiv_eq_ediv_of_nonneg h0, IntKind.wrap_u64]; omega
  by_cases h2 : n % 2 = 0
  · have hv : wrap64 (n / 2) = unfoldN n.toNat := by unfold unfoldN wrap64; rw [if_pos (by omega)]; omega
    have HV := Lib.hid hv
    clear hX hv
    go_enter Tryz.func73, Tryz.ntmps73
    go_wp2
    go_ret
    exact ⟨ret_int HV.out, rfl⟩
  · have hv : wrap64 (wrap64 (-wrap64 (n / 2)) - 1) = unfoldN n.toNat := by unfold unfoldN wrap64; rw [if_neg (by omega)]; omega
    have HV := Lib.hid hv
    clear hX hv
    go_enter Tryz.func73, Tryz.ntmps73
    go_wp2
    go_ret
    exact ⟨ret_int HV.out, rfl⟩
/-! ### Fixed -/
/-- The cells of Fixed's slice when r of them are still to be written. -/
def fixCells (n m r : Nat) : Array Value := (List.replicate r (Value.int .u8 0) ++ (fixedL n (m - r)).map byteV).toArray
theorem fixCells_start (n m : Nat) : fixCells n m m = Array.replicate m (.int .u8 0) := by
  simp [fixCells, fixedL]
theorem fixCells_set (n m q : Nat) (h : q + 1 ≤ m) {x : Int} (hx : x = (((n / 256 ^ (m - (q + 1))) % 256 : Nat) : Int)) :
    (fixCells n m (q + 1)).setIfInBounds q (.int .u8 x) = fixCells n m q := by
  subst hx
  unfold fixCells
  rw [show m - q = (m - (q + 1)) + 1 by omega, fixedL, List.map_cons, List.replicate_succ', List.append_assoc]
  simp only [List.setIfInBounds_toArray]
  rw [List.set_append_right _ _ (by simp)]
  simp [byteV]
theorem fixCells_get (n m : Nat) (j : Nat) (hj : j < (fixedL n m).length) : (fixCells n m 0)[j]? = some (.int .u8 ((fixedL n m)[j].toNat : Nat)) := by
  simp [fixCells, byteV, List.getElem?_eq_getElem hj]
theorem fixCells_at (n m q : Nat) : (fixCells n m (q + 1))[q]? = some (.int .u8 0) := by
  unfold fixCells
  rw [List.replicate_succ', List.append_assoc]
  simp
set_option maxRecDepth 100000 in
set_option maxHeartbeats 1000000 in
theorem fixed_any (n : Nat) (k : Int) (w : World) (hk : -9223372036854775808 ≤ k) (hk' : k ≤ 9223372036854775807) :
    Calls Tryz.prog 59 #[.int .u64 n, .int .i64 k] w fun e w' => e = .returned (.string (strOf (fixedL n (wd k)))) ∧ Below w.heap.size w w' := by
  have hm1 := wd_pos k
  have hm8 := wd_le k
  have hr : ∃ c : Int, (c = 1 ∧ k < 1 ∨ c = 8 ∧ 8 < k ∨ c = k ∧ 1 ≤ k ∧ k ≤ 8) ∧ c = (wd k : Int) := by
    unfold wd
    by_cases h1 : k < 1
    · exact ⟨1, .inl ⟨rfl, h1⟩, by rw [if_pos h1]; rfl⟩
    · by_cases h2 : k > 8
      · exact ⟨8, .inr (.inl ⟨rfl, h2⟩), by rw [if_neg h1, if_pos h2]; rfl⟩
      · exact ⟨k, .inr (.inr ⟨rfl, by omega, by omega⟩), by rw [if_neg h1, if_neg h2]; omega⟩
  obtain ⟨c, hr, hc⟩ := hr
  generalize wd k = m at *
  have hmk : ∀ u : World, (Instr.makeSlice 45 (.int .i64 c) (.int .i64 c)).run Tryz.prog u = .ok (.slice (some ⟨u.heap.size, 0, none⟩) m m) (u.alloc (.cells (Array.replicate m (.int .u8 0)) 5)) := by
    intro u; rw [hc]; exact make_bytes m (by omega) u
  clear hc
  rcases hr with ⟨rfl, h1⟩ | ⟨rfl, h1⟩ | ⟨rfl, h1, h2⟩
  all_goals
    go_enter Tryz.func59, Tryz.ntmps59
    go_wp2
    clear hmk
    go_loopw [0, 6] (fun v i wr => ∃ r : Nat, r ≤ m ∧ v = .int .u64 (n / 256 ^ (m - r) : Nat) ∧ i = .int .i64 ((r : Int) - 1) ∧ Blk wr w.heap.size 5 (fixCells n m r) ∧ Below w.heap.size w wr)
      (fun _ i _ => (intOf i + 1).toNat)
    case atStart =>
      refine ⟨m, Nat.le_refl _, by simp, rfl, ?_, (Below.refl _ _).alloc (Nat.le_refl _) _⟩
      rw [fixCells_start]; exact Blk.new _ _ _
    case round =>
      obtain ⟨r, hr, rfl, rfl, hb, hB⟩ := hrel
      have HB := Lib.hid hb
      clear hb
      rcases r with _ | q
      · have hcv := conv_back (w := wr) (g := w.heap.size) (c := m) (l := fixedL n m) (fun j hj => by rw [HB.out.cell]; exact fixCells_get n m j hj) m (fixedL_length n m)
        rw [show (((0 : Nat) : Int) - 1) = -1 by rfl]
        go_wp2
        go_ret
        exact ⟨rfl, hB⟩
      · have hz : wr.cell? ⟨w.heap.size, q, none⟩ = some (.int .u8 0) := by rw [HB.out.cell]; exact fixCells_at n m q
        have hf : wr.frozen? ⟨w.heap.size, q, none⟩ = false := HB.out.frozen q
        rw [show (((q + 1 : Nat) : Int) - 1) = (q : Int) by omega]
        have hp : 256 ^ (m - q) = 256 ^ (m - (q + 1)) * 256 := by rw [show m - q = (m - (q + 1)) + 1 by omega, Nat.pow_succ]
        have hd : n / 256 ^ (m - q) = n / 256 ^ (m - (q + 1)) / 256 := by rw [hp, Nat.div_div_eq_div_mul]
        have HD := Lib.hid hd
        have HV := Lib.hid (fixCells_set n m q hr (x := ((n / 256 ^ (m - (q + 1)) : Nat) : Int) % 256) (by omega))
        clear hp hd
        generalize n / 256 ^ (m - (q + 1)) = v at *
        go_wp2
        refine ⟨⟨q, by omega, by rw [HD.out]; go_num, rfl, by rw [← HV.out]; exact HB.out.set _ _, hB.setCell (Nat.le_refl _) _⟩, by simp [intOf]⟩

theorem shr_byte (n q : Nat) : (n : Int) / 2 ^ (8 * q) % 256 = ((UInt8.ofNat (n / 256 ^ q)).toNat : Int) := by
  have e : ((2 : Int) ^ (8 * q)) = ((256 ^ q : Nat) : Int) := by
    rw [Int.pow_mul, Int.natCast_pow]; rfl
  rw [e, u8_ofNat_toNat, ← Int.natCast_ediv, Int.natCast_emod]
  rfl
set_option maxRecDepth 100000 in
set_option maxHeartbeats 1000000 in
theorem rfixed_any (n : Nat) (k : Int) (w : World) (hk : -9223372036854775808 ≤ k) (hk' : k ≤ 9223372036854775807) :
    Calls Tryz.prog 61 #[.int .u64 n, .int .i64 k] w fun e w' => e = .returned (.string (strOf (fixedL n (wd k)))) ∧ Below w.heap.size w w' := by
  have hm1 := wd_pos k
  have hm8 := wd_le k
  have hr : ∃ c : Int, (c = 1 ∧ k < 1 ∨ c = 8 ∧ 8 < k ∨ c = k ∧ 1 ≤ k ∧ k ≤ 8) ∧ c = (wd k : Int) := by
    unfold wd
    by_cases h1 : k < 1
    · exact ⟨1, .inl ⟨rfl, h1⟩, by rw [if_pos h1]; rfl⟩
    · by_cases h2 : k > 8
      · exact ⟨8, .inr (.inl ⟨rfl, h2⟩), by rw [if_neg h1, if_pos h2]; rfl⟩
      · exact ⟨k, .inr (.inr ⟨rfl, by omega, by omega⟩), by rw [if_neg h1, if_neg h2]; omega⟩
  obtain ⟨c, hr, hc⟩ := hr
  generalize wd k = m at *
  have HC := Lib.hid hc
  clear hc
  rcases hr with ⟨rfl, h1⟩ | ⟨rfl, h1⟩ | ⟨rfl, h1, h2⟩
  all_goals
    go_enter Tryz.func61, Tryz.ntmps61
    go_wp2
    go_loopw [5, 6] (fun v i wr => ∃ (t r : Nat) (L : List UInt8) (g cap : Nat), t + r = m ∧ v = .slice (some ⟨g, 0, none⟩) t cap ∧ i = .int .i64 ((r : Int) - 1) ∧ L.length = t ∧ L ++ fixedL n r = fixedL n m ∧ OwnB wr w.heap.size (.slice (some ⟨g, 0, none⟩) t cap) L ∧ Below w.heap.size w wr)
      (fun _ i _ => (intOf i + 1).toNat)
    case atStart =>
      refine ⟨0, m, [], w.heap.size, 0, by omega, rfl, by first | (rw [← HC.out]; rfl) | rw [← HC.out], rfl, rfl, ⟨rfl, .inr ⟨w.heap.size, 0, #[], rfl, Nat.le_refl _, heap_alloc_new _ _, Nat.le_refl _, by unfold maxLen; omega, rfl, rfl⟩⟩, (Below.refl _ _).alloc (Nat.le_refl _) _⟩
    case round =>
      obtain ⟨t, r, L, g, cap, htr, rfl, rfl, hL, hF, hO, hB⟩ := hrel
      have HL := Lib.hid hL
      have HF := Lib.hid hF
      have HT := Lib.hid htr
      have ht8 : t ≤ 8 := by omega
      have hr8 : r ≤ 8 := by omega
      have hsz := hB.size
      clear hL hF htr
      rcases r with _ | q
      · have hl : L.length = t := HL.out
        have hcv := hO.conv hl
        have e : L = fixedL n m := by have := HF.out; simpa [fixedL] using this
        have HE := Lib.hid e
        clear e hl
        rw [show (((0 : Nat) : Int) - 1) = -1 by rfl]
        go_wp2
        go_ret
        exact ⟨ret_str (by rw [HE.out]), hB⟩
      · rw [show (((q + 1 : Nat) : Int) - 1) = (q : Int) by omega]
        go_wp2_with (at_builtin; refine wpList_push rfl _ _ rfl wr w.heap.size t _ L _ (UInt8.ofNat (n / 256 ^ q)) hO rfl rfl (shr_byte n q) HL.out (by omega) hsz ?_; intro g' cap' w' hO' hB' _)
        have hl' := HL.out
        have ht' := HT.out
        refine ⟨⟨t + 1, q, L ++ [UInt8.ofNat (n / 256 ^ q)], g', cap', by omega, rfl, rfl, by simp [hl'], ?_, hO', hB.trans hB'⟩, by simp [intOf]⟩
        rw [← HF.out, fixedL]; simp

/-! ### Var -/
/-- What holds at the head of both loops: the bytes written, the number that is left. -/
def VarAt (n0 : Nat) (L : List UInt8) (n : Nat) : Prop := ∃ f, f + L.length = 10 ∧ 0 < f ∧ n * 128 ^ L.length < 18446744073709551616 ∧ L ++ varF f n = varL n0
theorem VarAt.start {n : Nat} (h : n < 18446744073709551616) : VarAt n [] n := ⟨10, rfl, by decide, by simpa using h, rfl⟩
theorem VarAt.len {n0 n : Nat} {L : List UInt8} (h : VarAt n0 L n) : L.length ≤ 9 := by obtain ⟨f, h1, h2, _⟩ := h; omega
theorem VarAt.lt {n0 n : Nat} {L : List UInt8} (h : VarAt n0 L n) : n < 18446744073709551616 := by
  obtain ⟨f, _, _, h, _⟩ := h
  have hp : 0 < 128 ^ L.length := Nat.pow_pos (by decide)
  have := Nat.le_mul_of_pos_right n hp
  omega
theorem VarAt.step {n0 n : Nat} {L : List UInt8} (h : VarAt n0 L n) (hn : 128 ≤ n) : VarAt n0 (L ++ [UInt8.ofNat (n % 128 + 128)]) (n / 128) := by
  have hl9 := h.len
  obtain ⟨f, h1, h2, h3, h4⟩ := h
  have hdm : n / 128 * (128 ^ L.length * 128) ≤ n * 128 ^ L.length := by
    rw [Nat.mul_comm (128 ^ L.length) 128, ← Nat.mul_assoc]
    exact Nat.mul_le_mul_right _ (Nat.div_mul_le_self n 128)
  have hl : L.length ≠ 9 := by
    intro hl
    rw [hl] at h3
    simp only [Nat.reducePow] at h3
    omega
  obtain ⟨g, rfl⟩ : ∃ g, f = g + 1 := ⟨f - 1, by omega⟩
  refine ⟨g, by simp; omega, by omega, ?_, ?_⟩
  · simp only [List.length_append, List.length_cons, List.length_nil]
    rw [Nat.pow_succ]; omega
  · rw [← h4, varF, if_neg (by omega)]; simp
theorem VarAt.done {n0 n : Nat} {L : List UInt8} (h : VarAt n0 L n) (hn : n < 128) : L ++ [UInt8.ofNat n] = varL n0 := by
  obtain ⟨f, h1, h2, h3, h4⟩ := h
  obtain ⟨g, rfl⟩ : ∃ g, f = g + 1 := ⟨f - 1, by omega⟩
  rw [← h4, varF, if_pos hn]
theorem or128 (n : Nat) : bits BinOp.or IntKind.u8 ((n : Int) % 256) 128 = ((UInt8.ofNat (n % 128 + 128)).toNat : Int) := by
  have e : ((n : Int) % 256) = ((n % 256 : Nat) : Int) := by omega
  rw [e, u8_ofNat_toNat]
  show bits BinOp.or IntKind.u8 ((n % 256 : Nat) : Int) ((128 : Nat) : Int) = _
  rw [u8_or_nat _ _ (by omega) (by decide)]
  have h : ∀ x : Nat, x < 256 → x ||| 128 = x % 128 + 128 := by decide +kernel
  rw [h _ (by omega)]
  omega
theorem low_byte {n : Nat} (h : n < 128) : (n : Int) = ((UInt8.ofNat n).toNat : Int) := by rw [u8_ofNat_toNat]; omega
theorem high_byte (n : Nat) : (n : Int) % 128 + 128 = ((UInt8.ofNat (n % 128 + 128)).toNat : Int) := by rw [u8_ofNat_toNat]; omega

set_option maxRecDepth 100000 in
set_option maxHeartbeats 1000000 in
set_option maxRecDepth 100000 in
theorem var_any (n : Nat) (w : World) (hn : n < 18446744073709551616) :
    Calls Tryz.prog 26 #[.int .u64 n] w fun e w' => e = .returned (.string (strOf (varL n))) ∧ Below w.heap.size w w' := by
  have HN := Lib.hid hn
  clear hn
  go_enter Tryz.func26, Tryz.ntmps26
  go_wp2
  go_loopw [0, 3] (fun x v wr => ∃ (m t : Nat) (L : List UInt8), x = .int .u64 m ∧ L.length = t ∧ VarAt n L m ∧ OwnB wr w.heap.size v L ∧ Below w.heap.size w wr)
    (fun x _ _ => (intOf x).toNat)
  case atStart => exact ⟨n, 0, [], rfl, rfl, VarAt.start HN.out, OwnB.nil _ _, Below.refl _ _⟩
  case round =>
    obtain ⟨m, t, L, rfl, hL, hV, hO, hB⟩ := hrel
    have hsz := hB.size
    have ht := hV.len
    rw [hL] at ht
    have HL := Lib.hid hL
    clear hL
    have ho := or128 m
    by_cases h : m < 128
    · have hd := hV.done h
      have HD := Lib.hid hd
      clear hd ho
      have hlow := low_byte h
      have HW := Lib.hid hlow
      have h' : ¬ (128 : Int) ≤ (m : Int) := by omega
      clear hlow h
      go_wp2_with (at_builtin; refine wpList_push rfl _ _ rfl wr w.heap.size t _ L _ (UInt8.ofNat m) hO rfl rfl (HW.out) HL.out (by omega) hsz ?_; intro g' cap' w' hO' hB' _; have hcv := hO'.conv (by simp [HL.out]))
      go_ret
      exact ⟨ret_str (by rw [HD.out]), hB.trans (by assumption)⟩
    · have hst := hV.step (show 128 ≤ m by omega)
      generalize UInt8.ofNat (m % 128 + 128) = b at ho hst
      go_wp2_with (at_builtin; refine wpList_push rfl _ _ rfl wr w.heap.size t _ L _ b hO rfl rfl rfl HL.out (by omega) hsz ?_; intro g' cap' w' hO' hB' _)
      go_roundw
      case rel => exact ⟨m / 128, t + 1, _, by go_num, by simp [HL.out], hst, by assumption, hB.trans (by assumption)⟩
      case measure => simp [intOf]; omega
set_option maxRecDepth 100000 in
set_option maxHeartbeats 1000000 in
theorem rvar_any (n : Nat) (w : World) (hn : n < 18446744073709551616) :
    Calls Tryz.prog 30 #[.int .u64 n] w fun e w' => e = .returned (.string (strOf (varL n))) ∧ Below w.heap.size w w' := by
  have HN := Lib.hid hn
  clear hn
  go_enter Tryz.func30, Tryz.ntmps30
  go_wp2
  go_loopw [0, 3] (fun x v wr => ∃ (m t : Nat) (L : List UInt8), x = .int .u64 m ∧ L.length = t ∧ VarAt n L m ∧ OwnB wr w.heap.size v L ∧ Below w.heap.size w wr)
    (fun x _ _ => (intOf x).toNat)
  case atStart => exact ⟨n, 0, [], rfl, rfl, VarAt.start HN.out, ⟨rfl, .inr ⟨w.heap.size, 0, #[], rfl, Nat.le_refl _, heap_alloc_new _ _, Nat.le_refl _, by unfold maxLen; omega, rfl, rfl⟩⟩, (Below.refl _ _).alloc (Nat.le_refl _) _⟩
  case round =>
    obtain ⟨m, t, L, rfl, hL, hV, hO, hB⟩ := hrel
    have hsz := hB.size
    have ht := hV.len
    rw [hL] at ht
    have HL := Lib.hid hL
    clear hL
    by_cases h : m < 128
    · have hd := hV.done h
      have HD := Lib.hid hd
      clear hd
      go_wp2_with (at_builtin; refine wpList_push rfl _ _ rfl wr w.heap.size t _ L _ (UInt8.ofNat m) hO rfl rfl (low_byte h) HL.out (by omega) hsz ?_; intro g' cap' w' hO' hB' _; have hcv := hO'.conv (by simp [HL.out]))
      go_ret
      exact ⟨ret_str (by rw [HD.out]), hB.trans (by assumption)⟩
    · have hq : IntKind.u64.wrap ((m : Int) / 128) = (m : Int) / 128 := by rw [IntKind.wrap_u64]; have := hV.lt; omega
      go_wp2_with (at_builtin; refine wpList_push rfl _ _ rfl wr w.heap.size t _ L _ (UInt8.ofNat (m % 128 + 128)) hO rfl rfl (high_byte m) HL.out (by omega) hsz ?_; intro g' cap' w' hO' hB' _)
      go_roundw
      case rel => exact ⟨m / 128, t + 1, _, by go_num, by simp [HL.out], hV.step (by omega), by assumption, hB.trans (by assumption)⟩
      case measure => simp [intOf]; omega
theorem numOf_take_small (l : List UInt8) {k : Nat} (h : k ≤ 7) : numOf (l.take k) < 72057594037927936 :=
  Nat.lt_of_lt_of_le (numOf_take_lt l k) (Nat.le_trans (Nat.pow_le_pow_right (by decide) h) (by decide))
theorem unfixed_step (n : Nat) (c : UInt8) (h : n < 72057594037927936) : IntKind.u64.wrap (IntKind.u64.wrap ((n : Int) * 256) + IntKind.u64.wrap (c.toNat : Int)) = ((n * 256 + c.toNat : Nat) : Int) := by
  have := byte_lt c
  rw [IntKind.wrap_u64, IntKind.wrap_u64, IntKind.wrap_u64]; omega
theorem runfixed_step (n : Nat) (c : UInt8) (h : n < 72057594037927936) : bits BinOp.or IntKind.u64 (IntKind.u64.wrap ((n : Int) * 256)) (IntKind.u64.wrap (c.toNat : Int)) = ((n * 256 + c.toNat : Nat) : Int) := by
  have hc := byte_lt c
  have e1 : IntKind.u64.wrap ((n : Int) * 256) = ((n * 256 : Nat) : Int) := by rw [IntKind.wrap_u64]; omega
  have e2 : IntKind.u64.wrap (c.toNat : Int) = ((c.toNat : Nat) : Int) := by rw [IntKind.wrap_u64]; omega
  rw [e1, e2, u64_or_nat _ _ (by omega) (by omega), nat_join 8 _ _ (by omega) (by omega)]

/-! ### Unvar -/
theorem or_shift (a b k : Nat) (ha : a < 128 ^ k) (hb : b * 128 ^ k < 18446744073709551616) (hk : k ≤ 9) (hb8 : b < 256) :
    bits BinOp.or IntKind.u64 (a : Int) (IntKind.u64.wrap (IntKind.u64.wrap (b : Int) * 2 ^ (7 * k))) = ((a + b * 128 ^ k : Nat) : Int) := by
  have e0 : IntKind.u64.wrap (b : Int) = (b : Int) := by rw [IntKind.wrap_u64]; omega
  have e1 : ((2 : Int) ^ (7 * k)) = ((128 ^ k : Nat) : Int) := by rw [Int.pow_mul, Int.natCast_pow]; rfl
  have e2 : IntKind.u64.wrap ((b : Int) * ((128 ^ k : Nat) : Int)) = ((b * 128 ^ k : Nat) : Int) := by
    rw [← Int.natCast_mul, IntKind.wrap_u64]; omega
  have hka : 128 ^ k ≤ 128 ^ 9 := Nat.pow_le_pow_right (by decide) hk
  have h9 : (128 : Nat) ^ 9 = 9223372036854775808 := by decide
  rw [e0, e1, e2, u64_or_nat _ _ (by omega) hb, Nat.or_comm, nat_join (7 * k) _ _ ?_ ?_, Nat.add_comm]
  · rw [Nat.pow_mul]; exact Nat.mul_mod_left _ _
  · rw [Nat.pow_mul]; exact ha
theorem or_shift' (a b k : Nat) (ha : a < 128 ^ k) (hb : b * 128 ^ k < 18446744073709551616) (hk : k ≤ 9) (hb8 : b < 256) :
    bits BinOp.or IntKind.u64 (a : Int) (IntKind.u64.wrap ((b : Int) * 2 ^ (7 * k))) = ((a + b * 128 ^ k : Nat) : Int) := by
  rw [← or_shift a b k ha hb hk hb8, show IntKind.u64.wrap (b : Int) = (b : Int) by rw [IntKind.wrap_u64]; omega]
/-- What holds at the loop's head: k bytes read, all of them 128 or above. -/
def UnvAt (l : List UInt8) (k a : Nat) : Prop := k ≤ 9 ∧ a < 128 ^ k ∧ unvar l = unv (l.drop k) k a
theorem unv_at {l : List UInt8} {k a : Nat} (h : UnvAt l k a) (hk : k < l.length) : unvar l = unv (l[k] :: l.drop (k + 1)) k a := by
  rw [h.2.2, List.drop_eq_getElem_cons hk]
theorem UnvAt.bad {l : List UInt8} {k a : Nat} (h : UnvAt l k a) (hk : k < l.length) (hb : (k = 9 ∧ 1 < l[k].toNat) ∨ (0 < k ∧ l[k].toNat = 0)) : unvar l = (0, 0, 4) := by
  rw [unv_at h hk, unv, if_pos hb]
theorem UnvAt.ok {l : List UInt8} {k a : Nat} (h : UnvAt l k a) (hk : k < l.length) (hb : ¬ ((k = 9 ∧ 1 < l[k].toNat) ∨ (0 < k ∧ l[k].toNat = 0))) (h2 : l[k].toNat < 128) : unvar l = (a + l[k].toNat * 128 ^ k, k + 1, 0) := by
  rw [unv_at h hk, unv, if_neg hb, if_pos h2]
theorem UnvAt.next {l : List UInt8} {k a : Nat} (h : UnvAt l k a) (hk : k < l.length) (hb : ¬ ((k = 9 ∧ 1 < l[k].toNat) ∨ (0 < k ∧ l[k].toNat = 0))) (h2 : ¬ l[k].toNat < 128) : UnvAt l (k + 1) (a + (l[k].toNat - 128) * 128 ^ k) := by
  have hc := byte_lt l[k]
  obtain ⟨h1, h3, h4⟩ := h
  refine ⟨by omega, ?_, ?_⟩
  · rw [Nat.pow_succ]
    have : (l[k].toNat - 128) * 128 ^ k ≤ 127 * 128 ^ k := Nat.mul_le_mul_right _ (by omega)
    omega
  · rw [unv_at ⟨h1, h3, h4⟩ hk, unv, if_neg hb, if_neg h2]
theorem UnvAt.end_ {l : List UInt8} {k a : Nat} (h : UnvAt l k a) (hk : l.length ≤ k) : unvar l = (0, 0, 3) := by
  rw [h.2.2, List.drop_eq_nil_of_le hk, unv]
theorem UnvAt.start (l : List UInt8) : UnvAt l 0 0 := ⟨by decide, by decide, rfl⟩
theorem UnvAt.room {l : List UInt8} {k a : Nat} (h : UnvAt l k a) (hk : k < l.length) (hb : ¬ ((k = 9 ∧ 1 < l[k].toNat) ∨ (0 < k ∧ l[k].toNat = 0))) {x : Nat} (hx : x ≤ l[k].toNat) (hx' : x < 128) : x * 128 ^ k < 18446744073709551616 :=
  pow_last k x h.1 hx' (by omega)

theorem ret3 {a a' b b' c c' : Int} {i j k : IntKind} (h : a = a') (h' : b = b') (h'' : c = c') : Ending.returned (.tuple #[.int i a, .int j b, .int k c]) = .returned (.tuple #[.int i a', .int j b', .int k c']) := by rw [h, h', h'']

set_option maxRecDepth 100000 in
set_option maxHeartbeats 2000000 in
set_option maxRecDepth 100000 in
theorem unvar_any (s : ByteArray) (w : World) (hs : s.size ≤ 281474976710656) :
    Calls Tryz.prog 69 #[.string s] w fun e w' => e = .returned (.tuple #[.int .u64 ((unvar (bytesOf s)).1 : Nat), .int .i64 ((unvar (bytesOf s)).2.1 : Nat), .int .i64 ((unvar (bytesOf s)).2.2 : Nat)]) ∧ Below w.heap.size w w' := by
  obtain ⟨cap, w1, hcv, hc, hB⟩ := to_bytes w s
  have hl := bytesOf_length s
  have HC := Lib.hid hc
  have HL := Lib.hid hl
  clear hc hl
  obtain ⟨l, hl⟩ : ∃ l, l = bytesOf s := ⟨_, rfl⟩
  rw [← hl] at HC HL ⊢
  clear hl
  go_enter Tryz.func69, Tryz.ntmps69
  go_wp2
  clear hcv
  go_loop [5, 11] (fun x i => ∃ k a : Nat, k ≤ s.size ∧ i = .int .i64 k ∧ x = .int .u64 a ∧ UnvAt l k a) (fun _ i => s.size - (intOf i).toNat)
  case atStart => exact ⟨0, 0, Nat.zero_le _, rfl, rfl, UnvAt.start _⟩
  case round =>
    obtain ⟨k, a, hk, rfl, rfl, hU⟩ := hrel
    have hk9 := hU.1
    by_cases hlt : k < s.size
    · have hk' : k < l.length := by rw [HL.out]; exact hlt
      have hcell := HC.out k hk'
      have hc256 := byte_lt l[k]
      by_cases hbad : (k = 9 ∧ 1 < l[k].toNat) ∨ (0 < k ∧ l[k].toNat = 0)
      · have hr := hU.bad hk' hbad
        have HR := Lib.hid hr
        clear hr
        generalize l[k] = c at *
        by_cases h9 : k = 9
        · subst h9
          by_cases h1 : 1 < c.toNat
          · go_wp2
            go_ret3
            exact ⟨by rw [HR.out]; rfl, hB⟩
          · have h0 : c.toNat = 0 := by omega
            go_wp2
            go_ret3
            exact ⟨by rw [HR.out]; rfl, hB⟩
        · have h0 : c.toNat = 0 := by omega
          have hk0 : 0 < k := by omega
          have h9' : ((k : Int) == 9) = false := by simp; omega
          go_wp2
          go_ret3
          exact ⟨by rw [HR.out]; rfl, hB⟩
      · by_cases h2 : l[k].toNat < 128
        · have hr := hU.ok hk' hbad h2
          have hv := or_shift a l[k].toNat k hU.2.1 (hU.room hk' hbad (Nat.le_refl _) h2) hk9 hc256
          have hv' := or_shift' a l[k].toNat k hU.2.1 (hU.room hk' hbad (Nat.le_refl _) h2) hk9 hc256
          have HR := Lib.hid hr
          have HU := Lib.hid hU
          clear hr hU
          generalize l[k] = c at *
          generalize hx : a + c.toNat * 128 ^ k = x at *
          have HX := Lib.hid hx
          clear hx
          by_cases h9 : k = 9
          · have h9' : ((k : Int) == 9) = true := by simp; omega
            have h1 : ¬ 1 < c.toNat := by omega
            have h0 : ((c.toNat : Int) == 0) = false := by simp; omega
            clear h9
            go_wp2
            all_goals go_ret3
            all_goals exact ⟨by rw [HR.out]; exact ret3 rfl (by simp) rfl, hB⟩
          · have h9' : ((k : Int) == 9) = false := by simp; omega
            by_cases hk0 : k = 0
            · have hk0' : decide ((0 : Int) < (k : Int)) = false := by simp; omega
              clear hk0
              go_wp2
              all_goals go_ret3
              all_goals exact ⟨by rw [HR.out]; exact ret3 rfl (by simp) rfl, hB⟩
            · have hkp : 0 < k := by omega
              have h0 : ((c.toNat : Int) == 0) = false := by simp; omega
              go_wp2
              all_goals go_ret3
              all_goals exact ⟨by rw [HR.out]; exact ret3 rfl (by simp) rfl, hB⟩
        · have hr := hU.next hk' hbad h2
          have hv := or_shift a (l[k].toNat - 128) k hU.2.1 (hU.room hk' hbad (by omega) (by omega)) hk9 (by omega)
          have hcst : (((l[k].toNat - 128 : Nat)) : Int) = (l[k].toNat : Int) - 128 := by omega
          have hv' := or_shift' a (l[k].toNat - 128) k hU.2.1 (hU.room hk' hbad (by omega) (by omega)) hk9 (by omega)
          rw [hcst] at hv hv'
          have HR := Lib.hid hr
          have HU := Lib.hid hU
          clear hr hU hcst
          generalize l[k] = c at *
          generalize hx : a + (c.toNat - 128) * 128 ^ k = x at *
          have HX := Lib.hid hx
          clear hx
          have h9' : ((k : Int) == 9) = false := by simp; omega
          have h0 : ((c.toNat : Int) == 0) = false := by simp; omega
          by_cases hk0 : k = 0
          · have hk0' : decide ((0 : Int) < (k : Int)) = false := by simp; omega
            clear hk0
            go_wp2
            all_goals exact ⟨⟨k + 1, x, by omega, by go_num, rfl, HR.out⟩, by simp [intOf]; omega⟩
          · have hkp : 0 < k := by omega
            go_wp2
            all_goals exact ⟨⟨k + 1, x, by omega, by go_num, rfl, HR.out⟩, by simp [intOf]; omega⟩
    · have hr := hU.end_ (by rw [HL.out]; omega)
      have HR := Lib.hid hr
      clear hr hU
      go_wp2
      go_ret3
      exact ⟨by rw [HR.out]; rfl, hB⟩

set_option maxRecDepth 100000 in
set_option maxHeartbeats 2000000 in
set_option maxRecDepth 100000 in
theorem runvar_any (s : ByteArray) (w : World) (hs : s.size ≤ 281474976710656) :
    Calls Tryz.prog 47 #[.string s] w fun e w' => e = .returned (.tuple #[.int .u64 ((unvar (bytesOf s)).1 : Nat), .int .i64 ((unvar (bytesOf s)).2.1 : Nat), .int .i64 ((unvar (bytesOf s)).2.2 : Nat)]) ∧ w = w' := by
  have hl := bytesOf_length s
  have HL := Lib.hid hl
  have hg := bytes_get s
  have HG := Lib.hid hg
  clear hl hg
  obtain ⟨l, hl⟩ : ∃ l, l = bytesOf s := ⟨_, rfl⟩
  rw [← hl] at HG HL ⊢
  clear hl
  go_enter Tryz.func47, Tryz.ntmps47
  go_wp2
  go_loop [5, 6] (fun x i => ∃ k a : Nat, k ≤ s.size ∧ i = .int .i64 k ∧ x = .int .u64 a ∧ UnvAt l k a) (fun _ i => s.size - (intOf i).toNat)
  case atStart => exact ⟨0, 0, Nat.zero_le _, rfl, rfl, UnvAt.start _⟩
  case round =>
    obtain ⟨k, a, hk, rfl, rfl, hU⟩ := hrel
    have hk9 := hU.1
    by_cases hlt : k < s.size
    · have hk' : k < l.length := by rw [HL.out]; exact hlt
      have hg := HG.out k hlt hk'
      have hc256 := byte_lt l[k]
      have hw : IntKind.u64.wrap ((l[k].toNat : Nat) : Int) = ((l[k].toNat : Nat) : Int) := by rw [IntKind.wrap_u64]; omega
      by_cases hbad : (k = 9 ∧ 1 < l[k].toNat) ∨ (0 < k ∧ l[k].toNat = 0)
      · have hr := hU.bad hk' hbad
        have HR := Lib.hid hr
        clear hr
        rw [← hg] at hc256 hw hbad
        have HB := Lib.hid hbad
        clear hg hbad
        by_cases h9 : k = 9
        · have h9' : ((k : Int) == 9) = true := by simp; omega
          have hkp : (0 : Int) < (k : Int) := by omega
          by_cases h1 : 1 < s[k].toNat
          · clear h9
            go_wp2
            go_ret3
            exact ⟨by rw [HR.out]; rfl, rfl⟩
          · have h0 : ((s[k].toNat : Int) == 0) = true := by have := HB.out; simp; omega
            have h0' : s[k].toNat = 0 := by have := HB.out; omega
            clear h9
            go_wp2
            go_ret3
            exact ⟨by rw [HR.out]; rfl, rfl⟩
        · have hkp : (0 : Int) < (k : Int) := by have := HB.out; omega
          have h9' : ((k : Int) == 9) = false := by simp; omega
          have h0' : s[k].toNat = 0 := by have := HB.out; omega
          clear h9
          go_wp2
          go_ret3
          exact ⟨by rw [HR.out]; rfl, rfl⟩
      · have hx : ((l[k].toNat : Int) % 128) = ((l[k].toNat % 128 : Nat) : Int) := by omega
        have hvv := or_shift' a (l[k].toNat % 128) k hU.2.1 (hU.room hk' hbad (by omega) (by omega)) hk9 (by omega)
        have hv : bits BinOp.or IntKind.u64 (a : Int) (IntKind.u64.wrap ((l[k].toNat : Int) % 128 * 2 ^ (7 * k))) = ((a + l[k].toNat % 128 * 128 ^ k : Nat) : Int) := by rw [hx]; exact hvv
        clear hvv hx
        by_cases h2 : l[k].toNat < 128
        · have hr := hU.ok hk' hbad h2
          rw [show l[k].toNat % 128 = l[k].toNat by omega] at hv
          have HR := Lib.hid hr
          have HU := Lib.hid hU
          clear hr hU
          generalize hx : a + l[k].toNat * 128 ^ k = x at *
          rw [← hg] at hc256 hw hbad hv h2
          have HX := Lib.hid hx
          have HB := Lib.hid hbad
          clear hx hg hbad
          by_cases h9 : k = 9
          · have h9' : ((k : Int) == 9) = true := by simp; omega
            have h1 : ¬ 1 < s[k].toNat := by have := HB.out; omega
            have h0 : ((s[k].toNat : Int) == 0) = false := by have := HB.out; simp; omega
            clear h9
            go_wp2
            all_goals go_ret3
            all_goals exact ⟨by rw [HR.out]; exact ret3 rfl (by simp) rfl, rfl⟩
          · have h9' : ((k : Int) == 9) = false := by simp; omega
            by_cases hk0 : k = 0
            · have hk0' : decide ((0 : Int) < (k : Int)) = false := by simp; omega
              clear hk0
              go_wp2
              all_goals first
                | (exfalso; have := of_decide_eq_false hk0'; omega)
                | (go_ret3; exact ⟨by rw [HR.out]; exact ret3 rfl (by simp) rfl, rfl⟩)
            · have hkp : (0 : Int) < (k : Int) := by omega
              have h0 : ((s[k].toNat : Int) == 0) = false := by have := HB.out; simp; omega
              go_wp2
              all_goals go_ret3
              all_goals exact ⟨by rw [HR.out]; exact ret3 rfl (by simp) rfl, rfl⟩
        · have hr := hU.next hk' hbad h2
          rw [show l[k].toNat % 128 = l[k].toNat - 128 by omega] at hv
          have HR := Lib.hid hr
          have HU := Lib.hid hU
          clear hr hU
          generalize hx : a + (l[k].toNat - 128) * 128 ^ k = x at *
          rw [← hg] at hc256 hw hbad hv h2
          have HX := Lib.hid hx
          have HB := Lib.hid hbad
          clear hx hg hbad
          have h9' : ((k : Int) == 9) = false := by have := HB.out; simp; omega
          have h0 : ((s[k].toNat : Int) == 0) = false := by simp; omega
          by_cases hk0 : k = 0
          · have hk0' : decide ((0 : Int) < (k : Int)) = false := by simp; omega
            clear hk0
            go_wp2
            all_goals exact ⟨⟨k + 1, x, by omega, by go_num, rfl, HR.out⟩, by simp [intOf]; omega⟩
          · have hkp : (0 : Int) < (k : Int) := by omega
            go_wp2
            all_goals exact ⟨⟨k + 1, x, by omega, by go_num, rfl, HR.out⟩, by simp [intOf]; omega⟩
    · have hr := hU.end_ (by rw [HL.out]; omega)
      have HR := Lib.hid hr
      clear hr hU
      go_wp2
      go_ret3
      exact ⟨by rw [HR.out]; rfl, rfl⟩
end Go.Proofs.YtajmmolfnjdanaaGreatDoor
