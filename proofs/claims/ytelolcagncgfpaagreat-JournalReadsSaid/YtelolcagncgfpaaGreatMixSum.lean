/- The walks through the layer mix: bits.RotateLeft32 by 7, the closure of mix.Sum, mix.Sum, the document's answer. -/
import Derived.Test.YtelolcagncgfpaaGreatRows
import Derived.Test.YtelolcagncgfpaaGreatMixPure
import Derived.Test.YtelolcagncgfpaaGreatBase
namespace Go.Proofs.YtelolcagncgfpaaGreat
open Go.RowKit
theorem rot_val (x : Nat) (h : x < 4294967296) :
 bits BinOp.or IntKind.u32 ((x : Int) * 128 % 4294967296) ((x : Int) / 33554432) = ((rotl7 x : Nat) : Int) := by
 have e1 : ((x : Int) * 128 % 4294967296) = ((x * 128 % 4294967296 : Nat) : Int) := by omega
 have e2 : (x : Int) / 33554432 = ((x / 33554432 : Nat) : Int) := by omega
 rw [e1, e2, u32_or_nat _ _ (Nat.mod_lt _ (by decide)) (by omega), nat_join 7 _ _ (by omega) (by omega)]
 rfl
theorem rot_any (x : Int) (w : World) (h0 : 0 ≤ x) (h1 : x < 4294967296) :
 Calls Tryz.prog 87 #[.int .u32 x, .int .i64 7] w fun e w' => e = .returned (.int .u32 (rotl7 x.toNat : Nat)) ∧ w = w' := by
 obtain ⟨n, rfl⟩ := Int.eq_ofNat_of_zero_le h0
 have hb : bits BinOp.and IntKind.u64 7 31 = 7 := by decide
 go_enter Tryz.func87, Tryz.ntmps87
 go_wp2
 go_ret
 exact ⟨ret_int (rot_val n (by omega)), rfl⟩
theorem add_any (a g b : Nat) (A G B : Nat) (w : World) (hAG : A ≠ G) (hAB : A ≠ B) (hGB : G ≠ B)
 (ha : w.cell? ⟨A, 0, none⟩ = some (.int .u32 a)) (hg : w.cell? ⟨G, 0, none⟩ = some (.int .u32 g)) (hb : w.cell? ⟨B, 0, none⟩ = some (.int .u32 b))
 (fa : w.frozen? ⟨A, 0, none⟩ = false) (fg : w.frozen? ⟨G, 0, none⟩ = false) (fb : w.frozen? ⟨B, 0, none⟩ = false) :
 Calls Tryz.prog 86 #[.pointer (some ⟨A, 0, none⟩), .pointer (some ⟨G, 0, none⟩), .pointer (some ⟨B, 0, none⟩)] w
  fun e w' => e = .returned (.tuple #[]) ∧ w' = ((w.setCell ⟨A, 0, none⟩ (.int .u32 (mstep (a, b) g).1)).setCell ⟨B, 0, none⟩ (.int .u32 (mstep (a, b) g).2)).setCell ⟨G, 0, none⟩ (.int .u32 0) := by
 go_enter Tryz.func86, Tryz.ntmps86
 go_wp2_with (go_at_call 87; refine (rot_any _ _ (Int.emod_nonneg _ (by decide)) (Int.emod_lt_of_pos _ (by decide))).mono ?_; rintro e w' ⟨rfl, rfl⟩)
 go_end0
 refine ⟨rfl, ?_⟩
 have e1 : (((a : Int) + ((g : Int) + b)) % 4294967296) = (((mstep (a, b) g).1 : Nat) : Int) := by simp only [mstep]; omega
 have e2 : (b + g + (a + (g + b))) % 4294967296 = (b + g + (a + g + b) % 4294967296) % 4294967296 := by omega
 rw [e1, e2]
 rfl
def Three (B : Nat) (p : (Nat × Nat) × Nat) (w : World) : Prop :=
 w.heap.size = B + 3 ∧ w.heap[B]? = some (.cells #[.int .u32 (p.1.1 : Nat)] 130 (0, 0)) ∧ w.heap[B + 1]? = some (.cells #[.int .u32 (p.1.2 : Nat)] 130 (0, 0)) ∧ w.heap[B + 1 + 1]? = some (.cells #[.int .u32 (p.2 : Nat)] 130 (0, 0))
theorem Three.group {B : Nat} {p : (Nat × Nat) × Nat} {w : World} (h : Three B p w) (g : Nat) {x : Int} (hx : x = (g : Int)) :
 Three B (p.1, g) ((w.setCell ⟨B + 1 + 1, 0, none⟩ (.int .u32 x)).drew) := by
 subst hx
 obtain ⟨h0, h1, h2, h3⟩ := h
 refine ⟨by simpa using h0, ?_, ?_, one_setCell h3⟩
 · exact (Below.heap_setCell w _ _ _ (by simp; omega)).trans h1
 · exact (Below.heap_setCell w _ _ _ (by simp)).trans h2
theorem Three.step {B : Nat} {p : (Nat × Nat) × Nat} {w : World} (h : Three B p w) (a b : Nat) :
 Three B ((a, b), 0) (((w.setCell ⟨B, 0, none⟩ (.int .u32 a)).setCell ⟨B + 1, 0, none⟩ (.int .u32 b)).setCell ⟨B + 1 + 1, 0, none⟩ (.int .u32 0)) := by
 obtain ⟨h0, h1, h2, h3⟩ := h
 have k1 := one_setCell (u := .int .u32 a) h1
 have k2 := (Below.heap_setCell w ⟨B, 0, none⟩ (.int .u32 a) (B + 1) (by simp)).trans h2
 have k3 := (Below.heap_setCell w ⟨B, 0, none⟩ (.int .u32 a) (B + 1 + 1) (by simp; omega)).trans h3
 have l1 := (Below.heap_setCell _ ⟨B + 1, 0, none⟩ (.int .u32 b) B (by simp)).trans k1
 have l2 := one_setCell (u := .int .u32 b) k2
 have l3 := (Below.heap_setCell _ ⟨B + 1, 0, none⟩ (.int .u32 b) (B + 1 + 1) (by simp)).trans k3
 refine ⟨by simpa using h0, ?_, ?_, one_setCell l3⟩
 · exact (Below.heap_setCell _ _ _ _ (by simp; omega)).trans l1
 · exact (Below.heap_setCell _ _ _ _ (by simp)).trans l2
theorem add_three {B : Nat} {p : (Nat × Nat) × Nat} {w : World} (h : Three B p w) :
 Calls Tryz.prog 86 #[.pointer (some ⟨B, 0, none⟩), .pointer (some ⟨B + 1 + 1, 0, none⟩), .pointer (some ⟨B + 1, 0, none⟩)] w
  fun e w' => e = .returned (.tuple #[]) ∧ Three B (mstep p.1 p.2, 0) w' ∧ Below B w w' := by
 obtain ⟨h0, h1, h2, h3⟩ := id h
 refine (add_any p.1.1 p.2 p.1.2 B (B + 1 + 1) (B + 1) w (by omega) (by omega) (by omega) (cell_of_one h1) (cell_of_one h3) (cell_of_one h2) (free_of_one h1) (free_of_one h3) (free_of_one h2)).mono ?_
 rintro e w' ⟨he, rfl⟩
 exact ⟨he, h.step _ _, (((Below.refl B w).setCell (Nat.le_refl _) _).setCell (by simp) _).setCell (by simp; omega) _⟩
theorem three_new (w : World) (a b : Nat) {x y : Int} (hx : x = (a : Int)) (hy : y = (b : Int)) :
 Three w.heap.size ((a, b), 0) (((w.alloc (.cells #[.int .u32 x] 130)).alloc (.cells #[.int .u32 y] 130)).alloc (.cells #[.int .u32 0] 130)) := by
 subst hx; subst hy
 refine ⟨by simp, ?_, ?_, ?_⟩
 · exact (Below.heap_alloc _ _ _ (by simp; omega)).trans ((Below.heap_alloc _ _ _ (by simp)).trans (heap_alloc_new _ _))
 · refine (Below.heap_alloc _ _ _ (by simp)).trans ?_
   have := heap_alloc_new (w.alloc (.cells #[.int .u32 a] 130)) (.cells #[.int .u32 b] 130)
   simpa using this
 · have := heap_alloc_new ((w.alloc (.cells #[.int .u32 a] 130)).alloc (.cells #[.int .u32 b] 130)) (.cells #[.int .u32 0] 130)
   simpa using this
theorem or_val (p : Nat × Nat) (l : List UInt8) (k r : Nat) (hr : k % 4 = r) (h4 : r < 4) (c : UInt8) (hc : l.getD k 0 = c) (x : Int) (hx : x = ((c.toNat * 2 ^ (24 - r * 8) : Nat) : Int)) :
 bits BinOp.or IntKind.u32 (((mst p l k).2 : Nat) : Int) x = (((mst p l k).2 + (l.getD k 0).toNat * 2 ^ (24 - k % 4 * 8) : Nat) : Int) := by
 obtain ⟨g1, g2⟩ := mst_grp p l k
 have hb := u8_lt c
 rw [hc, hr]
 rw [hr] at g1
 have hlt : c.toNat * 2 ^ (24 - r * 8) < 4294967296 := by
  rcases (show r = 0 ∨ r = 1 ∨ r = 2 ∨ r = 3 by omega) with h | h | h | h <;> subst h <;> simp only [Nat.reduceMul, Nat.reduceSub, Nat.reducePow] <;> omega
 rw [hx, u32_or_nat _ _ g2 hlt, or_at _ _ _ h4 g1 hb]
theorem join_val (p : Nat × Nat) (h : In32 p) :
 bits BinOp.or IntKind.u64 (IntKind.u64.wrap (IntKind.u64.wrap (p.1 : Int) * 4294967296)) (IntKind.u64.wrap (p.2 : Int)) = ((ofPair p : Nat) : Int) := by
 obtain ⟨h1, h2⟩ := h
 have e1 : IntKind.u64.wrap (p.1 : Int) = (p.1 : Int) := by rw [IntKind.wrap_u64]; omega
 have e2 : IntKind.u64.wrap (p.2 : Int) = (p.2 : Int) := by rw [IntKind.wrap_u64]; omega
 have e3 : IntKind.u64.wrap ((p.1 : Int) * 4294967296) = ((p.1 * 4294967296 : Nat) : Int) := by rw [IntKind.wrap_u64]; omega
 rw [e1, e2, e3, u64_or_nat _ _ (by omega) (by omega), nat_join 32 _ _ (by omega) (by omega)]
 rfl
set_option maxHeartbeats 1000000 in
theorem sum_any (n : Nat) (s : ByteArray) (w : World) (hn : n < 18446744073709551616) (hs : s.size ≤ maxLen) :
 Calls Tryz.prog 63 #[.int .u64 n, .string s] w fun e w' => e = .returned (.int .u64 (mixSum n s.data.toList : Nat)) ∧ Below w.heap.size w w' := by
 unfold maxLen at hs
 go_enter Tryz.func63, Tryz.ntmps63
 go_wp2
 go_loopw [18] (fun i wr => ∃ k : Nat, k ≤ s.size ∧ i = .int .i64 k ∧ Three w.heap.size (mst (pairOf n) s.data.toList k) wr ∧ Below w.heap.size w wr)
  (fun i _ => s.size - (intOf i).toNat)
 case atStart =>
  refine ⟨0, Nat.zero_le _, rfl, three_new w _ _ (by simp) (by simp), ?_⟩
  exact (((Below.refl _ w).alloc (Nat.le_refl _) _).alloc (by simp) _).alloc (by simp; omega) _
 case round =>
  obtain ⟨k, hk, rfl, hT, hB⟩ := hrel
  obtain ⟨hsz, hA, hBb, hG⟩ := id hT
  have cA := cell_of_one hA
  have fA := free_of_one hA
  have cB := cell_of_one hBb
  have fB := free_of_one hBb
  have cG := cell_of_one hG
  have fG := free_of_one hG
  have HT := Lib.hid hT
  clear hT hA hBb hG
  by_cases hlt : k < s.size
  · have hget : s.data.toList.getD k 0 = s[k] := by
     rw [List.getD_eq_getElem?_getD, List.getElem?_eq_getElem (by simpa using hlt), Array.getElem_toList]; rfl
    have HG := Lib.hid hget
    clear hget
    rcases (show k % 4 = 0 ∨ k % 4 = 1 ∨ k % 4 = 2 ∨ k % 4 = 3 by omega) with h4 | h4 | h4 | h4
    · have hk4 : ((k : Int) % 4) = 0 := by omega
      have H4 := Lib.hid h4
      clear h4
      go_wp2
      go_region
      go_wp2
      go_roundw
      case rel =>
       refine ⟨k + 1, by omega, by go_num, ?_, (hB.setCell (by simp; omega) _).drew⟩
       rw [mst_succ, if_neg (by have := H4.out; omega)]
       exact HT.out.group _ (or_val _ _ k 0 H4.out (by decide) _ HG.out _ (by have := u8_lt s[k]; omega))
      case measure => simp [intOf]; omega
    · have hk4 : ((k : Int) % 4) = 1 := by omega
      have H4 := Lib.hid h4
      clear h4
      go_wp2
      go_region
      go_wp2
      go_roundw
      case rel =>
       refine ⟨k + 1, by omega, by go_num, ?_, (hB.setCell (by simp; omega) _).drew⟩
       rw [mst_succ, if_neg (by have := H4.out; omega)]
       exact HT.out.group _ (or_val _ _ k 1 H4.out (by decide) _ HG.out _ (by have := u8_lt s[k]; omega))
      case measure => simp [intOf]; omega
    · have hk4 : ((k : Int) % 4) = 2 := by omega
      have H4 := Lib.hid h4
      clear h4
      go_wp2
      go_region
      go_wp2
      go_roundw
      case rel =>
       refine ⟨k + 1, by omega, by go_num, ?_, (hB.setCell (by simp; omega) _).drew⟩
       rw [mst_succ, if_neg (by have := H4.out; omega)]
       exact HT.out.group _ (or_val _ _ k 2 H4.out (by decide) _ HG.out _ (by have := u8_lt s[k]; omega))
      case measure => simp [intOf]; omega
    · have hk4 : ((k : Int) % 4) = 3 := by omega
      have H4 := Lib.hid h4
      clear h4
      go_wp2
      go_region
      go_wp2_with (go_at_call 86; refine (add_three (HT.out.group _ (or_val _ _ k 3 H4.out (by decide) _ HG.out _ (by have := u8_lt s[k]; omega)))).mono ?_; rintro e w1 ⟨rfl, hT1, hB1⟩)
      go_roundw
      case rel =>
       refine ⟨k + 1, by omega, by go_num, ?_, ((hB.setCell (by simp; omega) _).drew).trans hB1⟩
       rw [mst_succ, if_pos H4.out]
       exact hT1
      case measure => simp [intOf]; omega
  · have hk' : k = s.size := by omega
    have hl : s.data.toList.length = s.size := by simp
    have HL := Lib.hid hl
    clear hl
    subst hk'
    by_cases h4 : s.size % 4 = 0
    · have hk4 : ((s.size : Int) % 4) = 0 := by omega
      go_wp2
      go_ret
      have he := mstEnd_eq s.data.toList (pairOf n)
      unfold mstEnd at he
      rw [HL.out, if_pos h4] at he
      refine ⟨ret_int ((join_val _ (mst_in _ _ (pairOf_in hn) _)).trans ?_), hB⟩
      rw [he]; rfl
    · have hk4 : (((s.size : Int) % 4) == 0) = false := by simp; omega
      go_wp2_with (go_at_call 86; refine (add_three HT.out).mono ?_; rintro e w1 ⟨rfl, hT1, hB1⟩; obtain ⟨hsz1, hA1, hBb1, hG1⟩ := id hT1; have cA1 := cell_of_one hA1; have cB1 := cell_of_one hBb1; clear hA1 hBb1 hG1)
      go_ret
      have he := mstEnd_eq s.data.toList (pairOf n)
      unfold mstEnd at he
      rw [HL.out, if_neg h4] at he
      refine ⟨ret_int ((join_val _ (mstep_in _ _)).trans ?_), hB.trans hB1⟩
      rw [he]; rfl
theorem at_any (s : ByteArray) (i : Int) (w : World) (h0 : 0 ≤ i) (hi : i ≤ 9223372036854775807) (hs : s.size ≤ 281474976710656) :
 Calls Tryz.prog 55 #[.string s, .int .i64 i] w fun e w' => e = .returned (.int .u64 (byteAt s.data.toList i.toNat : Nat)) ∧ w = w' := by
 by_cases h : i < s.size
 · have hget : byteAt s.data.toList i.toNat = (s[i.toNat]'(by omega)).toNat := by
    unfold byteAt
    rw [List.getD_eq_getElem?_getD, List.getElem?_eq_getElem (by simp; omega), Array.getElem_toList]; rfl
   have HG := Lib.hid hget
   clear hget
   go_enter Tryz.func55, Tryz.ntmps55
   go_wp2
   go_ret
   refine ⟨ret_int ?_, rfl⟩
   rw [HG.out, IntKind.wrap_u64]
   have := u8_lt (s[i.toNat]'(by omega))
   omega
 · have hget : byteAt s.data.toList i.toNat = 0 := by
    unfold byteAt
    rw [List.getD_eq_getElem?_getD, List.getElem?_eq_none (by simp; omega)]; rfl
   have HG := Lib.hid hget
   clear hget
   go_enter Tryz.func55, Tryz.ntmps55
   go_wp2
   go_ret
   refine ⟨ret_int ?_, rfl⟩
   rw [HG.out]; rfl
theorem refX (l : List UInt8) (j : Nat) :
 bits BinOp.or IntKind.u64 (bits BinOp.or IntKind.u64 (bits BinOp.or IntKind.u64 (IntKind.u64.wrap ((byteAt l j : Int) * 16777216)) (IntKind.u64.wrap ((byteAt l (j + 1) : Int) * 65536))) (IntKind.u64.wrap ((byteAt l (j + 2) : Int) * 256))) (byteAt l (j + 3) : Int) = ((grpAt l j : Nat) : Int) := by
 unfold grpAt
 have h0 := byteAt_lt l j
 have h1 := byteAt_lt l (j + 1)
 have h2 := byteAt_lt l (j + 2)
 have h3 := byteAt_lt l (j + 3)
 generalize byteAt l j = a at *
 generalize byteAt l (j + 1) = b at *
 generalize byteAt l (j + 2) = c at *
 generalize byteAt l (j + 3) = d at *
 have e1 : IntKind.u64.wrap ((a : Int) * 16777216) = ((a * 16777216 : Nat) : Int) := by rw [IntKind.wrap_u64]; omega
 have e2 : IntKind.u64.wrap ((b : Int) * 65536) = ((b * 65536 : Nat) : Int) := by rw [IntKind.wrap_u64]; omega
 have e3 : IntKind.u64.wrap ((c : Int) * 256) = ((c * 256 : Nat) : Int) := by rw [IntKind.wrap_u64]; omega
 rw [e1, e2, e3, u64_or_nat _ _ (by omega) (by omega), nat_join 24 _ _ (by omega) (by omega), u64_or_nat _ _ (by omega) (by omega), nat_join 16 _ _ (by omega) (by omega),
  u64_or_nat _ _ (by omega) (by omega), nat_join 8 _ _ (by omega) (by omega)]
theorem and32 (x : Int) (X : Nat) (hx : x % 18446744073709551616 = (X : Int)) : bits BinOp.and IntKind.u64 (IntKind.u64.wrap x) 4294967295 = ((X % 4294967296 : Nat) : Int) := by
 rw [IntKind.wrap_u64, hx, u64_and _ _ (by omega) (by omega) (by decide) (by decide)]
 show (((X &&& 4294967295 : Nat)) : Int) = _
 rw [nat_mask32]
theorem refA (a b x : Nat) (ha : a < 4294967296) (hb : b < 4294967296) (hx : x < 4294967296) :
 bits BinOp.and IntKind.u64 (IntKind.u64.wrap (IntKind.u64.wrap ((a : Int) + x) + b)) 4294967295 = (((a + x + b) % 4294967296 : Nat) : Int) :=
 and32 _ _ (by rw [IntKind.wrap_u64]; omega)
theorem refRot (b : Nat) (hb : b < 4294967296) :
 bits BinOp.and IntKind.u64 (bits BinOp.or IntKind.u64 (IntKind.u64.wrap ((b : Int) * 128)) ((b : Int) / 33554432)) 4294967295 = ((rotl7 b : Nat) : Int) := by
 have e1 : IntKind.u64.wrap ((b : Int) * 128) = ((b * 128 : Nat) : Int) := by rw [IntKind.wrap_u64]; omega
 have e2 : (b : Int) / 33554432 = ((b / 33554432 : Nat) : Int) := by omega
 rw [e1, e2, u64_or_nat _ _ (by omega) (by omega), nat_join 7 _ _ (by omega) (by omega), u64_and _ _ (by omega) (by omega) (by decide) (by decide)]
 show ((((b * 128 + b / 33554432) &&& 4294967295 : Nat)) : Int) = _
 rw [nat_mask32]
 unfold rotl7
 omega
theorem join32 (p : Nat × Nat) (h : In32 p) : bits BinOp.or IntKind.u64 (IntKind.u64.wrap ((p.1 : Int) * 4294967296)) (p.2 : Int) = ((ofPair p : Nat) : Int) := by
 obtain ⟨h1, h2⟩ := h
 have e3 : IntKind.u64.wrap ((p.1 : Int) * 4294967296) = ((p.1 * 4294967296 : Nat) : Int) := by rw [IntKind.wrap_u64]; omega
 rw [e3, u64_or_nat _ _ (by omega) (by omega), nat_join 32 _ _ (by omega) (by omega)]
 rfl
set_option maxHeartbeats 1000000 in
theorem ref_any (n : Nat) (s : ByteArray) (w : World) (hn : n < 18446744073709551616) (hs : s.size ≤ 281474976710656) :
 Calls Tryz.prog 26 #[.int .u64 n, .string s] w fun e w' => e = .returned (.int .u64 (mixSum n s.data.toList : Nat)) ∧ w = w' := by
 have hp : bits BinOp.and IntKind.u64 (n : Int) 4294967295 = (((pairOf n).2 : Nat) : Int) := by
  rw [u64_and _ _ (by omega) (by omega) (by decide) (by decide)]
  show (((n &&& 4294967295 : Nat)) : Int) = _
  rw [nat_mask32]; rfl
 go_enter Tryz.func26, Tryz.ntmps26
 go_wp2
 clear hp
 go_loop [5, 6, 7] (fun a b i => ∃ (p : Nat × Nat) (j : Nat), j ≤ s.size + 3 ∧ In32 p ∧ a = .int .u64 p.1 ∧ b = .int .u64 p.2 ∧ i = .int .i64 j ∧ (groups (s.data.toList.drop j)).foldl mstep p = (groups s.data.toList).foldl mstep (pairOf n))
  (fun _ _ i => s.size - (intOf i).toNat)
 case atStart => exact ⟨pairOf n, 0, by omega, pairOf_in hn, by simp [pairOf], by simp [pairOf], rfl, rfl⟩
 case round =>
  obtain ⟨p, j, hj, hp, rfl, rfl, rfl, hf⟩ := hrel
  have HF := Lib.hid hf
  clear hf
  by_cases hlt : j < s.size
  · have hg := groups_drop s.data.toList j (by simpa using hlt)
    have hX := grpAt_lt s.data.toList j
    have x0 := refX s.data.toList j
    obtain ⟨a, b⟩ := p
    have HP := Lib.hid hp
    have x1 := refA a b (grpAt s.data.toList j) hp.1 hp.2 hX
    have x2 := refA b ((a + grpAt s.data.toList j + b) % 4294967296) (grpAt s.data.toList j) hp.2 (Nat.mod_lt _ (by decide)) hX
    have x3 := refRot ((b + grpAt s.data.toList j + (a + grpAt s.data.toList j + b) % 4294967296) % 4294967296) (Nat.mod_lt _ (by decide))
    have HN := Lib.hid hg
    clear hg hp
    generalize hx : grpAt s.data.toList j = x at *
    generalize ha : (a + x + b) % 4294967296 = a' at *
    generalize hb : (b + x + a') % 4294967296 = b' at *
    generalize hc : rotl7 b' = c' at *
    have Hx := Lib.hid hx
    have Ha := Lib.hid ha
    have Hb := Lib.hid hb
    have Hc := Lib.hid hc
    clear hx ha hb hc
    go_wp2_with (go_at_call 55; refine (at_any _ _ _ (by omega) (by omega) hs).mono ?_; rintro e w' ⟨rfl, rfl⟩)
    have hm : mstep (a, b) x = (a', c') := by
     show ((a + x + b) % 4294967296, rotl7 ((b + x + (a + x + b) % 4294967296) % 4294967296)) = _
     rw [Ha.out, Hb.out, Hc.out]
    have hf := HF.out
    rw [HN.out, List.foldl_cons, hm] at hf
    refine ⟨⟨(a', c'), j + 4, by omega, ?_, rfl, rfl, by go_num, hf⟩, by simp [intOf]; omega⟩
    rw [← hm]; exact mstep_in _ _
  · have hd : s.data.toList.drop j = [] := List.drop_eq_nil_of_le (by simp; omega)
    have hf := HF.out
    rw [hd] at hf
    have HF2 := Lib.hid hf
    have HD := Lib.hid hd
    have hj' := join32 p hp
    have HP := Lib.hid hp
    clear hd hf hp HF
    go_wp2
    go_ret
    refine ⟨ret_int ?_, rfl⟩
    unfold mixSum
    rw [← HF2.out]
    rfl
theorem mixSum_u64 {x : Int} (h : U64 x) (l : List UInt8) : U64 ((mixSum x.toNat l : Nat) : Int) := by
 have := mixSum_lt (n := x.toNat) (by have := h.1; have := h.2; omega) l
 unfold U64; omega
theorem sum_c {B : Nat} {w0 : World} (x : Int) (s : ByteArray) (w : World) (hx : U64 x) (hs : s.size ≤ 281474976710656) (hle : B ≤ w0.heap.size) (hB : Below B w0 w) :
 Calls Tryz.prog 63 #[.int .u64 x, .string s] w fun e w' => e = .returned (.int .u64 (mixSum x.toNat (bytesOf s) : Nat)) ∧ Below B w0 w' := by
 obtain ⟨n, rfl⟩ := Int.eq_ofNat_of_zero_le hx.1
 have h2 := hx.2
 refine (sum_any n s w (by omega) (by unfold maxLen; omega)).mono ?_
 rintro e w' ⟨he, hb⟩
 exact ⟨he, hB.trans (hb.mono (Nat.le_trans hle hB.size))⟩
theorem ref_c (x : Int) (s : ByteArray) (w : World) (hx : U64 x) (hs : s.size ≤ 281474976710656) :
 Calls Tryz.prog 26 #[.int .u64 x, .string s] w fun e w' => e = .returned (.int .u64 (mixSum x.toNat (bytesOf s) : Nat)) ∧ w = w' := by
 obtain ⟨n, rfl⟩ := Int.eq_ofNat_of_zero_le hx.1
 have h2 := hx.2
 exact ref_any n s w (by omega) hs
end Go.Proofs.YtelolcagncgfpaaGreat
