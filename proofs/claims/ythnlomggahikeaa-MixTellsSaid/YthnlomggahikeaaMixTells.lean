/- The walk through the law MixTells. -/
import Derived.Test.YthnlomggahikeaaMixLaws
import Derived.StillTailTactics
import Derived.Laws.IdiomStrings
namespace Go.Proofs.Ythnlomggahikeaa
open Go.RowKit
namespace mixTells
/-- A block that is known whole. -/
def Blk (w : World) (g : Nat) (t : TypeId) (cs : Array Value) : Prop := w.heap[g]? = some (.cells cs t (0, 0))
theorem Blk.cell {w : World} {g : Nat} {t : TypeId} {cs : Array Value} (h : Blk w g t cs) (i : Nat) : w.cell? ⟨g, i, none⟩ = cs[i]? := by unfold Blk at h; simp [World.cell?, h]
theorem Blk.lt {w : World} {g : Nat} {t : TypeId} {cs : Array Value} (h : Blk w g t cs) : g < w.heap.size := lt_of_block h
theorem Blk.below {w w' : World} {B g : Nat} {t : TypeId} {cs : Array Value} (h : Blk w g t cs) (hb : Below B w w') (hg : g < B) : Blk w' g t cs := (hb.block g hg).trans h
theorem Blk.new (w : World) (t : TypeId) (cs : Array Value) : Blk (w.alloc (.cells cs t)) w.heap.size t cs := heap_alloc_new w _
theorem Blk.alloc {w : World} {g : Nat} {t : TypeId} {cs : Array Value} (h : Blk w g t cs) (o : Obj) : Blk (w.alloc o) g t cs := (Below.heap_alloc w o g h.lt).trans h

theorem sizeB (w : World) : (sizeOf 5).run Try.prog w = .ok 1 w := by kernel_rfl
theorem eqB (d : Nat) (w : World) (a b : Int) : (Op.equalIn (d + 1) 5 (.int .u8 a) (.int .u8 b)).run Try.prog w = .ok (a == b) w := run_equalIn_int w d 5 .u8 .u8 a b Try.underlying5
theorem arrEq_d (d : Nat) (w : World) (a0 a1 a2 a3 b0 b1 b2 b3 : Int) :
    (Op.equalIn (d + 2) 29 (.agg #[.int .u8 a0, .int .u8 a1, .int .u8 a2, .int .u8 a3]) (.agg #[.int .u8 b0, .int .u8 b1, .int .u8 b2, .int .u8 b3])).run Try.prog w = .ok (a0 == b0 && a1 == b1 && a2 == b2 && a3 == b3) w := by
  rw [Op.equalIn]
  simp only [Sem.run_bind, run_underlying Try.underlying29, Result.andThen_ok, sizeB, part]
  simp [List.range', eqB]
  by_cases h0 : a0 = b0 <;> by_cases h1 : a1 = b1 <;> by_cases h2 : a2 = b2 <;> by_cases h3 : a3 = b3 <;> simp [h0, h1, h2, h3]
theorem arrEq (w : World) (a0 a1 a2 a3 b0 b1 b2 b3 : Int) :
    (Op.equalIn 10000 29 (.agg #[.int .u8 a0, .int .u8 a1, .int .u8 a2, .int .u8 a3]) (.agg #[.int .u8 b0, .int .u8 b1, .int .u8 b2, .int .u8 b3])).run Try.prog w = .ok (a0 == b0 && a1 == b1 && a2 == b2 && a3 == b3) w :=
  arrEq_d 9998 w a0 a1 a2 a3 b0 b1 b2 b3

def gs (b0 b1 b2 b3 b4 b5 b6 b7 : UInt8) : Array Value := #[.int .u8 b0.toNat, .int .u8 b1.toNat, .int .u8 b2.toNat, .int .u8 b3.toNat, .int .u8 b4.toNat, .int .u8 b5.toNat, .int .u8 b6.toNat, .int .u8 b7.toNat]
theorem conv0 {w : World} {g : Nat} {b0 b1 b2 b3 b4 b5 b6 b7 : UInt8} (h : ∀ i, w.cell? ⟨g, i, none⟩ = (gs b0 b1 b2 b3 b4 b5 b6 b7)[i]?) :
    (convert 31 9 (.slice (some ⟨g, 0, none⟩) 4 4)).run Try.prog w = .ok (.string ⟨#[b0, b1, b2, b3]⟩) w :=
  run_convert_bytes_back w 31 9 5 ⟨g, 0, none⟩ 4 [b0, b1, b2, b3] Try.underlying31 Try.underlying5 Try.underlying9 (fun j hj => by
    have h4 : j = 0 ∨ j = 1 ∨ j = 2 ∨ j = 3 := by simp at hj; omega
    rcases h4 with h4 | h4 | h4 | h4 <;> subst h4 <;> simp [Addr.add, h, gs])
theorem conv4 {w : World} {g : Nat} {b0 b1 b2 b3 b4 b5 b6 b7 : UInt8} (h : ∀ i, w.cell? ⟨g, i, none⟩ = (gs b0 b1 b2 b3 b4 b5 b6 b7)[i]?) :
    (convert 31 9 (.slice (some ⟨g, 4, none⟩) 4 4)).run Try.prog w = .ok (.string ⟨#[b4, b5, b6, b7]⟩) w :=
  run_convert_bytes_back w 31 9 5 ⟨g, 4, none⟩ 4 [b4, b5, b6, b7] Try.underlying31 Try.underlying5 Try.underlying9 (fun j hj => by
    have h4 : j = 0 ∨ j = 1 ∨ j = 2 ∨ j = 3 := by simp at hj; omega
    rcases h4 with h4 | h4 | h4 | h4 <;> subst h4 <;> simp [Addr.add, h, gs])

set_option maxHeartbeats 1000000 in
theorem walk8 (x0 x1 : Int) (s0 s1 : ByteArray) (b0 b1 b2 b3 b4 b5 b6 b7 : UInt8) (w : World) (h0 : U64 x0) (h1 : U64 x1) (z0 : s0.size ≤ 140737488351232) (z1 : s1.size ≤ 140737488351232) :
    Calls Try.prog 5 #[.agg #[.int .u64 x0, .int .u64 x1], .agg #[.string s0, .string s1], .agg (gs b0 b1 b2 b3 b4 b5 b6 b7)] w fun e w' => e = .returned (.bool true) ∧ Below w.heap.size w w' := by
  obtain ⟨G, hG⟩ : ∃ G, G = gs b0 b1 b2 b3 b4 b5 b6 b7 := ⟨_, rfl⟩
  rw [← hG]
  have k0 := ((Blk.new w 27 #[.int .u64 x0, .int .u64 x1]).alloc (.cells #[.string s0, .string s1] 28)).alloc (.cells G 30)
  have k1 := (Blk.new (w.alloc (.cells #[.int .u64 x0, .int .u64 x1] 27)) 28 #[.string s0, .string s1]).alloc (.cells G 30)
  have k2 := Blk.new ((w.alloc (.cells #[.int .u64 x0, .int .u64 x1] 27)).alloc (.cells #[.string s0, .string s1] 28)) 30 G
  have hB0 := (((Below.refl w.heap.size w).alloc (Nat.le_refl _) (.cells #[.int .u64 x0, .int .u64 x1] 27)).alloc (by simp) (.cells #[.string s0, .string s1] 28)).alloc (by simp; omega) (.cells G 30)
  simp only [World.size_alloc] at k1 k2
  have K0 := Lib.hid k0
  have K1 := Lib.hid k1
  have K2 := Lib.hid k2
  have HB0 := Lib.hid hB0
  have HG := Lib.hid hG
  clear k0 k1 k2 hB0 hG
  go_enter Try.func5, Try.ntmps5
  go_wp2_with fail
  refine (awake_c _ (Nat.le_refl _) (Below.refl _ _)).mono ?_
  rintro e w1 ⟨rfl, hB1⟩
  replace K0 := Lib.hid (K0.out.below hB1 (by simp; omega))
  replace K1 := Lib.hid (K1.out.below hB1 (by simp))
  replace K2 := Lib.hid (K2.out.below hB1 (by simp))
  replace HB0 := Lib.hid (HB0.out.trans (hB1.mono (by simp; omega)))
  clear hB1
  have l1 : ¬ 9223372036854775807 < s0.size - s0.size % 4 + 4 := by omega
  have l2 : ¬ 9223372036854775807 < s0.size - s0.size % 4 + 4 + s1.size := by omega
  have c1 := K1.out.cell
  go_wp2_with fail
  refine wp_region_still_tail 9 (by kernel_rfl) (by kernel_rfl) ?_
  simp only [List.take_succ_cons, List.take_zero, List.drop_succ_cons, List.drop_zero]
  change wpStill _ _ w1.drew (fun a' => wpList _ _ _ _ a' w1.drew) _ _
  replace K0 : Hid (Blk w1.drew _ _ _) := K0
  replace K1 : Hid (Blk w1.drew _ _ _) := K1
  replace K2 : Hid (Blk w1.drew _ _ _) := K2
  replace HB0 : Hid (Below w.heap.size w w1.drew) := Lib.hid HB0.out.drew
  generalize w1.drew = v1 at *
  have c0 := K0.out.cell
  have c1 := K1.out.cell
  have c2 := K2.out.cell
  rw [HG.out] at c2
  have cv := conv0 c2
  repeat still_step
  refine wpStill_nil ?_
  clear cv c0 c1 c2
  go_wp2_with fail
  refine (sum_c _ _ _ h0 (by simp [ByteArray.size_mk']; omega) (Nat.le_refl _) (Below.refl _ _)).mono ?_
  rintro e w2 ⟨rfl, hB1⟩
  replace K0 := Lib.hid (K0.out.below hB1 K0.out.lt)
  replace K1 := Lib.hid (K1.out.below hB1 K1.out.lt)
  replace K2 := Lib.hid (K2.out.below hB1 K2.out.lt)
  replace HB0 := Lib.hid (HB0.out.trans (hB1.mono HB0.out.size))
  clear hB1
  go_wp2_with fail
  refine wp_region_still_tail 9 (by kernel_rfl) (by kernel_rfl) ?_
  simp only [List.take_succ_cons, List.take_zero, List.drop_succ_cons, List.drop_zero]
  change wpStill _ _ w2.drew (fun a' => wpList _ _ _ _ a' w2.drew) _ _
  replace K0 : Hid (Blk w2.drew _ _ _) := K0
  replace K1 : Hid (Blk w2.drew _ _ _) := K1
  replace K2 : Hid (Blk w2.drew _ _ _) := K2
  replace HB0 : Hid (Below w.heap.size w w2.drew) := Lib.hid HB0.out.drew
  generalize w2.drew = v2 at *
  have c0 := K0.out.cell
  have c1 := K1.out.cell
  have c2 := K2.out.cell
  rw [HG.out] at c2
  have cv := conv4 c2
  repeat still_step
  refine wpStill_nil ?_
  clear cv c0 c1 c2
  go_wp2_with fail
  refine (sum_c _ _ _ h0 (by simp [ByteArray.size_mk']; omega) (Nat.le_refl _) (Below.refl _ _)).mono ?_
  rintro e w3 ⟨rfl, hB1⟩
  replace K0 := Lib.hid (K0.out.below hB1 K0.out.lt)
  replace K1 := Lib.hid (K1.out.below hB1 K1.out.lt)
  replace K2 := Lib.hid (K2.out.below hB1 K2.out.lt)
  replace HB0 := Lib.hid (HB0.out.trans (hB1.mono HB0.out.size))
  clear hB1
  go_wp2_with fail
  refine wp_region_still_tail 9 (by kernel_rfl) (by kernel_rfl) ?_
  simp only [List.take_succ_cons, List.take_zero, List.drop_succ_cons, List.drop_zero]
  change wpStill _ _ w3.drew (fun a' => wpList _ _ _ _ a' w3.drew) _ _
  replace K0 : Hid (Blk w3.drew _ _ _) := K0
  replace K1 : Hid (Blk w3.drew _ _ _) := K1
  replace K2 : Hid (Blk w3.drew _ _ _) := K2
  replace HB0 : Hid (Below w.heap.size w w3.drew) := Lib.hid HB0.out.drew
  generalize w3.drew = v3 at *
  have c0 := K0.out.cell
  have c1 := K1.out.cell
  have c2 := K2.out.cell
  rw [HG.out] at c2
  have cv := conv0 c2
  repeat still_step
  refine wpStill_nil ?_
  clear cv c0 c1 c2
  go_wp2_with fail
  refine (sum_c _ _ _ h1 (by simp [ByteArray.size_mk']; omega) (Nat.le_refl _) (Below.refl _ _)).mono ?_
  rintro e w4 ⟨rfl, hB1⟩
  replace K0 := Lib.hid (K0.out.below hB1 K0.out.lt)
  replace K1 := Lib.hid (K1.out.below hB1 K1.out.lt)
  replace K2 := Lib.hid (K2.out.below hB1 K2.out.lt)
  replace HB0 := Lib.hid (HB0.out.trans (hB1.mono HB0.out.size))
  clear hB1
  have c0 := K0.out.cell
  have c2 := K2.out.cell
  rw [HG.out] at c2
  simp only [gs] at c2
  have hq := arrEq w4 b0.toNat b1.toNat b2.toNat b3.toNat b4.toNat b5.toNat b6.toNat b7.toNat
  have hE : ∀ a b c d : UInt8, bytesOf (s0.extract 0 (s0.size - s0.size % 4) ++ ⟨#[a, b, c, d]⟩ ++ s1) = bytesOf (s0.extract 0 (s0.size - s0.size % 4)) ++ [a, b, c, d] ++ bytesOf s1 := by
    intro a b c d; rw [bytesOf_append, bytesOf_append]; rfl
  have hx0 : x0.toNat < 18446744073709551616 := by have := h0.1; have := h0.2; omega
  have hx1 : x1.toNat < 18446744073709551616 := by have := h1.1; have := h1.2; omega
  have hT := mixSum_tells hx0 hx1 (bytesOf (s0.extract 0 (s0.size - s0.size % 4))) (bytesOf s1) (by rw [bytesOf_length]; simp; omega) b0 b1 b2 b3 b4 b5 b6 b7
  rw [← hE, ← hE] at hT
  clear hx0 hx1 hE
  generalize mixSum x0.toNat (bytesOf (s0.extract 0 (s0.size - s0.size % 4) ++ ⟨#[b0, b1, b2, b3]⟩ ++ s1)) = A at *
  generalize mixSum x0.toNat (bytesOf (s0.extract 0 (s0.size - s0.size % 4) ++ ⟨#[b4, b5, b6, b7]⟩ ++ s1)) = B at *
  generalize mixSum x1.toNat (bytesOf (s0.extract 0 (s0.size - s0.size % 4) ++ ⟨#[b0, b1, b2, b3]⟩ ++ s1)) = C at *
  have e1 : (((A : Int) == (B : Int)) == ((b0.toNat : Int) == (b4.toNat : Int) && (b1.toNat : Int) == (b5.toNat : Int) && (b2.toNat : Int) == (b6.toNat : Int) && (b3.toNat : Int) == (b7.toNat : Int))) = true := by
    have h := hT.1
    simp only [← UInt8.toNat_inj] at h
    rw [beq_iff_eq, Bool.eq_iff_iff]
    simp only [beq_iff_eq, Bool.and_eq_true, Int.natCast_inj, and_assoc]
    exact h
  have e2 : (((A : Int) == (C : Int)) == (x0 == x1)) = true := by
    have h := hT.2
    have h00 := h0.1
    have h10 := h1.1
    rw [beq_iff_eq, Bool.eq_iff_iff]
    simp only [beq_iff_eq, Int.natCast_inj]
    rw [h]; omega
  clear hT
  go_wp2_with fail
  go_ret
  exact ⟨rfl, HB0.out⟩
theorem byte_of {n : Int} (h : (Lit.int .u8 n).wf = true) : ∃ b : UInt8, n = (b.toNat : Int) := by
  have := bounds_u8 h
  exact ⟨UInt8.ofNat n.toNat, by rw [UInt8.toNat_ofNat']; omega⟩
theorem walk (x0 x1 : Int) (s0 s1 : ByteArray) (n0 n1 n2 n3 n4 n5 n6 n7 : Int) (w : World) (h0 : (Lit.int .u64 x0).wf = true) (h1 : (Lit.int .u64 x1).wf = true) (z0 : s0.size ≤ 140737488351232) (z1 : s1.size ≤ 140737488351232)
    (w0 : (Lit.int .u8 n0).wf = true) (w1 : (Lit.int .u8 n1).wf = true) (w2 : (Lit.int .u8 n2).wf = true) (w3 : (Lit.int .u8 n3).wf = true) (w4 : (Lit.int .u8 n4).wf = true) (w5 : (Lit.int .u8 n5).wf = true) (w6 : (Lit.int .u8 n6).wf = true) (w7 : (Lit.int .u8 n7).wf = true) :
    Calls Try.prog 5 #[.agg #[.int .u64 x0, .int .u64 x1], .agg #[.string s0, .string s1], .agg #[.int .u8 n0, .int .u8 n1, .int .u8 n2, .int .u8 n3, .int .u8 n4, .int .u8 n5, .int .u8 n6, .int .u8 n7]] w fun e w' => e = .returned (.bool true) ∧ Below w.heap.size w w' := by
  obtain ⟨b0, rfl⟩ := byte_of w0
  obtain ⟨b1, rfl⟩ := byte_of w1
  obtain ⟨b2, rfl⟩ := byte_of w2
  obtain ⟨b3, rfl⟩ := byte_of w3
  obtain ⟨b4, rfl⟩ := byte_of w4
  obtain ⟨b5, rfl⟩ := byte_of w5
  obtain ⟨b6, rfl⟩ := byte_of w6
  obtain ⟨b7, rfl⟩ := byte_of w7
  exact walk8 x0 x1 s0 s1 b0 b1 b2 b3 b4 b5 b6 b7 w (u64_of_wf h0) (u64_of_wf h1) z0 z1
end mixTells
end Go.Proofs.Ythnlomggahikeaa
