/- The walks through the layer num. -/
import Derived.Test.YtelolcagncgfpaaGreatRows
import Derived.Test.YtelolcagncgfpaaGreatNumPure
import Derived.Test.YtelolcagncgfpaaGreatBytes
namespace Go.Proofs.YtelolcagncgfpaaGreat
open Go.RowKit
def fixCells (n m r : Nat) : Array Value := (List.replicate r (Value.int .u8 0) ++ (fixedL n (m - r)).map byteV).toArray
theorem fixCells_start (n m : Nat) : fixCells n m m = Array.replicate m (.int .u8 0) := by
 simp [fixCells, fixedL]
theorem fixCells_set (n m q : Nat) (h : q + 1 ≤ m) {x : Int} (hx : x = (((n / 256 ^ (m - (q + 1))) % 256 : Nat) : Int)) :
 (fixCells n m (q + 1)).setIfInBounds q (.int .u8 x) = fixCells n m q := by
 subst hx
 unfold fixCells
 rw [show m - q = (m - (q + 1)) + 1 by omega, fixedL, List.map_cons, List.replicate_succ', List.append_assoc]
 simp only [List.setIfInBounds_toArray]
 rw [List.set_append_right _ _ (by simp)]
 simp [byteV]
theorem fixCells_get (n m : Nat) (j : Nat) (hj : j < (fixedL n m).length) : (fixCells n m 0)[j]? = some (.int .u8 ((fixedL n m)[j].toNat : Nat)) := by
 simp [fixCells, byteV, List.getElem?_eq_getElem hj]
theorem fixCells_at (n m q : Nat) : (fixCells n m (q + 1))[q]? = some (.int .u8 0) := by
 unfold fixCells
 rw [List.replicate_succ', List.append_assoc]
 simp
set_option maxRecDepth 100000 in
set_option maxHeartbeats 1000000 in
theorem fixed_any (n : Nat) (k : Int) (w : World) (hk : -9223372036854775808 ≤ k) (hk' : k ≤ 9223372036854775807) :
 Calls Tryz.prog 80 #[.int .u64 n, .int .i64 k] w fun e w' => e = .returned (.string (strOf (fixedL n (wd k)))) ∧ Below w.heap.size w w' := by
 have hm1 := wd_pos k
 have hm8 := wd_le k
 have hr : ∃ c : Int, (c = 1 ∧ k < 1 ∨ c = 8 ∧ 8 < k ∨ c = k ∧ 1 ≤ k ∧ k ≤ 8) ∧ c = (wd k : Int) := by
  unfold wd
  by_cases h1 : k < 1
  · exact ⟨1, .inl ⟨rfl, h1⟩, by rw [if_pos h1]; rfl⟩
  · by_cases h2 : k > 8
    · exact ⟨8, .inr (.inl ⟨rfl, h2⟩), by rw [if_neg h1, if_pos h2]; rfl⟩
    · exact ⟨k, .inr (.inr ⟨rfl, by omega, by omega⟩), by rw [if_neg h1, if_neg h2]; omega⟩
 obtain ⟨c, hr, hc⟩ := hr
 generalize wd k = m at *
 have hmk : ∀ u : World, (Instr.makeSlice 53 (.int .i64 c) (.int .i64 c)).run Tryz.prog u = .ok (.slice (some ⟨u.heap.size, 0, none⟩) m m) (u.alloc (.cells (Array.replicate m (.int .u8 0)) 5)) := by
  intro u; rw [hc]; exact make_bytes m (by omega) u
 clear hc
 rcases hr with ⟨rfl, h1⟩ | ⟨rfl, h1⟩ | ⟨rfl, h1, h2⟩
 all_goals
  go_enter Tryz.func80, Tryz.ntmps80
  go_wp2
  clear hmk
  go_loopw [0, 6] (fun v i wr => ∃ r : Nat, r ≤ m ∧ v = .int .u64 (n / 256 ^ (m - r) : Nat) ∧ i = .int .i64 ((r : Int) - 1) ∧ Blk wr w.heap.size 5 (fixCells n m r) ∧ Below w.heap.size w wr)
   (fun _ i _ => (intOf i + 1).toNat)
  case atStart =>
   refine ⟨m, Nat.le_refl _, by simp, rfl, ?_, (Below.refl _ _).alloc (Nat.le_refl _) _⟩
   rw [fixCells_start]; exact Blk.new _ _ _
  case round =>
   obtain ⟨r, hr, rfl, rfl, hb, hB⟩ := hrel
   have HB := Lib.hid hb
   clear hb
   rcases r with _ | q
   · have hcv := conv_back (w := wr) (g := w.heap.size) (c := m) (l := fixedL n m) (fun j hj => by rw [HB.out.cell]; exact fixCells_get n m j hj) m (fixedL_length n m)
     rw [show (((0 : Nat) : Int) - 1) = -1 by rfl]
     go_wp2
     go_ret
     exact ⟨rfl, hB⟩
   · have hz : wr.cell? ⟨w.heap.size, q, none⟩ = some (.int .u8 0) := by rw [HB.out.cell]; exact fixCells_at n m q
     have hf : wr.frozen? ⟨w.heap.size, q, none⟩ = false := HB.out.frozen q
     rw [show (((q + 1 : Nat) : Int) - 1) = (q : Int) by omega]
     have hp : 256 ^ (m - q) = 256 ^ (m - (q + 1)) * 256 := by rw [show m - q = (m - (q + 1)) + 1 by omega, Nat.pow_succ]
     have hd : n / 256 ^ (m - q) = n / 256 ^ (m - (q + 1)) / 256 := by rw [hp, Nat.div_div_eq_div_mul]
     have HD := Lib.hid hd
     have HV := Lib.hid (fixCells_set n m q hr (x := ((n / 256 ^ (m - (q + 1)) : Nat) : Int) % 256) (by omega))
     clear hp hd
     generalize n / 256 ^ (m - (q + 1)) = v at *
     go_wp2
     refine ⟨⟨q, by omega, by rw [HD.out]; go_num, rfl, by rw [← HV.out]; exact HB.out.set _ _, hB.setCell (Nat.le_refl _) _⟩, by simp [intOf]⟩
theorem shr_byte (n q : Nat) : (n : Int) / 2 ^ (8 * q) % 256 = ((UInt8.ofNat (n / 256 ^ q)).toNat : Int) := by
 have e : ((2 : Int) ^ (8 * q)) = ((256 ^ q : Nat) : Int) := by
  rw [Int.pow_mul, Int.natCast_pow]; rfl
 rw [e, u8_ofNat_toNat, ← Int.natCast_ediv, Int.natCast_emod]
 rfl
set_option maxRecDepth 100000 in
set_option maxHeartbeats 1000000 in
theorem rfixed_any (n : Nat) (k : Int) (w : World) (hk : -9223372036854775808 ≤ k) (hk' : k ≤ 9223372036854775807) :
 Calls Tryz.prog 25 #[.int .u64 n, .int .i64 k] w fun e w' => e = .returned (.string (strOf (fixedL n (wd k)))) ∧ Below w.heap.size w w' := by
 have hm1 := wd_pos k
 have hm8 := wd_le k
 have hr : ∃ c : Int, (c = 1 ∧ k < 1 ∨ c = 8 ∧ 8 < k ∨ c = k ∧ 1 ≤ k ∧ k ≤ 8) ∧ c = (wd k : Int) := by
  unfold wd
  by_cases h1 : k < 1
  · exact ⟨1, .inl ⟨rfl, h1⟩, by rw [if_pos h1]; rfl⟩
  · by_cases h2 : k > 8
    · exact ⟨8, .inr (.inl ⟨rfl, h2⟩), by rw [if_neg h1, if_pos h2]; rfl⟩
    · exact ⟨k, .inr (.inr ⟨rfl, by omega, by omega⟩), by rw [if_neg h1, if_neg h2]; omega⟩
 obtain ⟨c, hr, hc⟩ := hr
 generalize wd k = m at *
 have HC := Lib.hid hc
 clear hc
 rcases hr with ⟨rfl, h1⟩ | ⟨rfl, h1⟩ | ⟨rfl, h1, h2⟩
 all_goals
  go_enter Tryz.func25, Tryz.ntmps25
  go_wp2
  go_loopw [5, 6] (fun v i wr => ∃ (t r : Nat) (L : List UInt8) (g cap : Nat), t + r = m ∧ v = .slice (some ⟨g, 0, none⟩) t cap ∧ i = .int .i64 ((r : Int) - 1) ∧ L.length = t ∧ L ++ fixedL n r = fixedL n m ∧ OwnB wr w.heap.size (.slice (some ⟨g, 0, none⟩) t cap) L ∧ Below w.heap.size w wr)
   (fun _ i _ => (intOf i + 1).toNat)
  case atStart =>
   refine ⟨0, m, [], w.heap.size, 0, by omega, rfl, by first | (rw [← HC.out]; rfl) | rw [← HC.out], rfl, rfl, ⟨rfl, .inr ⟨w.heap.size, 0, #[], rfl, Nat.le_refl _, heap_alloc_new _ _, Nat.le_refl _, by unfold maxLen; omega, rfl, rfl⟩⟩, (Below.refl _ _).alloc (Nat.le_refl _) _⟩
  case round =>
   obtain ⟨t, r, L, g, cap, htr, rfl, rfl, hL, hF, hO, hB⟩ := hrel
   have HL := Lib.hid hL
   have HF := Lib.hid hF
   have HT := Lib.hid htr
   have ht8 : t ≤ 8 := by omega
   have hr8 : r ≤ 8 := by omega
   have hsz := hB.size
   clear hL hF htr
   rcases r with _ | q
   · have hl : L.length = t := HL.out
     have hcv := hO.conv hl
     have e : L = fixedL n m := by have := HF.out; simpa [fixedL] using this
     have HE := Lib.hid e
     clear e hl
     rw [show (((0 : Nat) : Int) - 1) = -1 by rfl]
     go_wp2
     go_ret
     exact ⟨ret_str (by rw [HE.out]), hB⟩
   · rw [show (((q + 1 : Nat) : Int) - 1) = (q : Int) by omega]
     go_wp2_with (at_builtin; refine wpList_push rfl _ _ rfl wr w.heap.size t _ L _ (UInt8.ofNat (n / 256 ^ q)) hO rfl rfl (shr_byte n q) HL.out (by omega) hsz ?_; intro g' cap' w' hO' hB' _)
     have hl' := HL.out
     have ht' := HT.out
     refine ⟨⟨t + 1, q, L ++ [UInt8.ofNat (n / 256 ^ q)], g', cap', by omega, rfl, rfl, by simp [hl'], ?_, hO', hB.trans hB'⟩, by simp [intOf]⟩
     rw [← HF.out, fixedL]; simp
theorem numOf_take_small (l : List UInt8) {k : Nat} (h : k ≤ 7) : numOf (l.take k) < 72057594037927936 :=
 Nat.lt_of_lt_of_le (numOf_take_lt l k) (Nat.le_trans (Nat.pow_le_pow_right (by decide) h) (by decide))
theorem unfixed_step (n : Nat) (c : UInt8) (h : n < 72057594037927936) : IntKind.u64.wrap (IntKind.u64.wrap ((n : Int) * 256) + IntKind.u64.wrap (c.toNat : Int)) = ((n * 256 + c.toNat : Nat) : Int) := by
 have := byte_lt c
 rw [IntKind.wrap_u64, IntKind.wrap_u64, IntKind.wrap_u64]; omega
theorem runfixed_step (n : Nat) (c : UInt8) (h : n < 72057594037927936) : bits BinOp.or IntKind.u64 (IntKind.u64.wrap ((n : Int) * 256)) (IntKind.u64.wrap (c.toNat : Int)) = ((n * 256 + c.toNat : Nat) : Int) := by
 have hc := byte_lt c
 have e1 : IntKind.u64.wrap ((n : Int) * 256) = ((n * 256 : Nat) : Int) := by rw [IntKind.wrap_u64]; omega
 have e2 : IntKind.u64.wrap (c.toNat : Int) = ((c.toNat : Nat) : Int) := by rw [IntKind.wrap_u64]; omega
 rw [e1, e2, u64_or_nat _ _ (by omega) (by omega), nat_join 8 _ _ (by omega) (by omega)]
theorem unfixed_bad (s : ByteArray) (w : World) (h : s.size < 1 ∨ 8 < s.size) (hs : s.size ≤ 281474976710656) :
 Calls Tryz.prog 65 #[.string s] w fun e w' => e = .returned (.tuple #[.int .u64 0, .int .i64 1]) ∧ Below w.heap.size w w' := by
 rcases h with h | h
 · go_enter Tryz.func65, Tryz.ntmps65
   go_wp2
   go_ret2
   exact ⟨rfl, Below.refl _ _⟩
 · have h' : ((s.size : Int) < 1) = False := by simp; omega
   go_enter Tryz.func65, Tryz.ntmps65
   go_wp2
   go_ret2
   exact ⟨rfl, Below.refl _ _⟩
set_option maxRecDepth 100000 in
set_option maxHeartbeats 1000000 in
theorem unfixed_good (s : ByteArray) (w : World) (h1 : 1 ≤ s.size) (h8 : s.size ≤ 8) :
 Calls Tryz.prog 65 #[.string s] w fun e w' => e = .returned (.tuple #[.int .u64 (numOf (bytesOf s) : Nat), .int .i64 0]) ∧ Below w.heap.size w w' := by
 obtain ⟨cap, w1, hcv, hc, hB⟩ := to_bytes w s
 have hl := bytesOf_length s
 have HC := Lib.hid hc
 have HL := Lib.hid hl
 clear hc hl
 go_enter Tryz.func65, Tryz.ntmps65
 go_wp2
 clear hcv
 go_loop [4, 18] (fun x i => ∃ k : Nat, k ≤ s.size ∧ i = .int .i64 k ∧ x = .int .u64 (numOf ((bytesOf s).take k) : Nat)) (fun _ i => s.size - (intOf i).toNat)
 case atStart => exact ⟨0, Nat.zero_le _, rfl, rfl⟩
 case round =>
  obtain ⟨k, hk, rfl, rfl⟩ := hrel
  by_cases hlt : k < s.size
  · have hk' : k < (bytesOf s).length := by rw [HL.out]; exact hlt
    have hcell := HC.out k hk'
    have hn := numOf_take hk'
    have hst := unfixed_step (numOf ((bytesOf s).take k)) (bytesOf s)[k] (numOf_take_small _ (by omega))
    rw [← hn] at hst
    generalize (bytesOf s)[k] = c at *
    generalize hx : numOf ((bytesOf s).take (k + 1)) = x' at *
    have HX := Lib.hid hx
    clear hn hx
    go_wp2
    exact ⟨⟨k + 1, by omega, by go_num, by rw [HX.out]⟩, by simp [intOf]; omega⟩
  · have hk' : (bytesOf s).take k = bytesOf s := List.take_of_length_le (by rw [HL.out]; omega)
    have HK := Lib.hid hk'
    clear hk'
    go_wp2
    go_ret2
    exact ⟨by rw [HK.out]; rfl, hB⟩
theorem unfixed_any (s : ByteArray) (w : World) (hs : s.size ≤ 281474976710656) :
 Calls Tryz.prog 65 #[.string s] w fun e w' => e = .returned (.tuple #[.int .u64 ((unfixed (bytesOf s)).1 : Nat), .int .i64 ((unfixed (bytesOf s)).2 : Nat)]) ∧ Below w.heap.size w w' := by
 have hl := bytesOf_length s
 by_cases h : s.size < 1 ∨ 8 < s.size
 · rw [unfixed_neg (by omega)]; exact unfixed_bad s w h hs
 · rw [unfixed_pos (by omega) (by omega)]; exact unfixed_good s w (by omega) (by omega)
theorem runfixed_bad (s : ByteArray) (w : World) (h : s.size < 1 ∨ 8 < s.size) (hs : s.size ≤ 281474976710656) :
 Calls Tryz.prog 40 #[.string s] w fun e w' => e = .returned (.tuple #[.int .u64 0, .int .i64 1]) ∧ w = w' := by
 rcases h with h | h
 · go_enter Tryz.func40, Tryz.ntmps40
   go_wp2
   go_ret2
   exact ⟨rfl, rfl⟩
 · have h' : ((s.size : Int) < 1) = False := by simp; omega
   go_enter Tryz.func40, Tryz.ntmps40
   go_wp2
   go_ret2
   exact ⟨rfl, rfl⟩
set_option maxRecDepth 100000 in
set_option maxHeartbeats 1000000 in
theorem runfixed_good (s : ByteArray) (w : World) (h1 : 1 ≤ s.size) (h8 : s.size ≤ 8) :
 Calls Tryz.prog 40 #[.string s] w fun e w' => e = .returned (.tuple #[.int .u64 (numOf (bytesOf s) : Nat), .int .i64 0]) ∧ w = w' := by
 have hl := bytesOf_length s
 have HL := Lib.hid hl
 clear hl
 go_enter Tryz.func40, Tryz.ntmps40
 go_wp2
 go_loop [4, 5] (fun x i => ∃ k : Nat, k ≤ s.size ∧ i = .int .i64 k ∧ x = .int .u64 (numOf ((bytesOf s).take k) : Nat)) (fun _ i => s.size - (intOf i).toNat)
 case atStart => exact ⟨0, Nat.zero_le _, rfl, rfl⟩
 case round =>
  obtain ⟨k, hk, rfl, rfl⟩ := hrel
  by_cases hlt : k < s.size
  · have hk' : k < (bytesOf s).length := by rw [HL.out]; exact hlt
    have hg := bytes_get s k hlt hk'
    have hn := numOf_take hk'
    have hst := runfixed_step (numOf ((bytesOf s).take k)) (bytesOf s)[k] (numOf_take_small _ (by omega))
    rw [← hn, ← hg] at hst
    clear hg
    generalize hx : numOf ((bytesOf s).take (k + 1)) = x' at *
    have HX := Lib.hid hx
    clear hn hx
    go_wp2
    exact ⟨⟨k + 1, by omega, by go_num, by rw [HX.out]⟩, by simp [intOf]; omega⟩
  · have hk' : (bytesOf s).take k = bytesOf s := List.take_of_length_le (by rw [HL.out]; omega)
    have HK := Lib.hid hk'
    clear hk'
    go_wp2
    go_ret2
    exact ⟨by rw [HK.out]; rfl, rfl⟩
theorem runfixed_any (s : ByteArray) (w : World) (hs : s.size ≤ 281474976710656) :
 Calls Tryz.prog 40 #[.string s] w fun e w' => e = .returned (.tuple #[.int .u64 ((unfixed (bytesOf s)).1 : Nat), .int .i64 ((unfixed (bytesOf s)).2 : Nat)]) ∧ w = w' := by
 have hl := bytesOf_length s
 by_cases h : s.size < 1 ∨ 8 < s.size
 · rw [unfixed_neg (by omega)]; exact runfixed_bad s w h hs
 · rw [unfixed_pos (by omega) (by omega)]; exact runfixed_good s w (by omega) (by omega)
end Go.Proofs.YtelolcagncgfpaaGreat
