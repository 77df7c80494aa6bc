/- The walks of the layer seal and of the document's answer for it. -/
import Derived.Test.YtelolcagncgfpaaGreatSealPure
import Derived.Test.YtelolcagncgfpaaGreatMixSum
import Derived.Test.YtelolcagncgfpaaGreatBytes
import Derived.Test.YtelolcagncgfpaaGreatNumWalk
import Derived.Test.YtelolcagncgfpaaGreatPlan
namespace Go.Proofs.YtelolcagncgfpaaGreat
open Go.RowKit
theorem number_any (s : ByteArray) (x : Nat) (w : World) (h1 : 1 ≤ s.size) (h8 : s.size ≤ 8) (hx : numOf (bytesOf s) = x) :
 Calls Tryz.prog 64 #[.string s] w fun e w' => e = .returned (.int .u64 x) ∧ Below w.heap.size w w' := by
 have hl := bytesOf_length s
 have q : unfixed (bytesOf s) = (numOf (bytesOf s), 0) := unfixed_pos (by omega) (by omega)
 subst hx
 go_enter Tryz.func64, Tryz.ntmps64
 go_wp2_with fail
 refine (unfixed_any s _ (by omega)).mono ?_
 rw [q]
 rintro e w' ⟨rfl, hB⟩
 go_wp2_with fail
 go_ret
 exact ⟨rfl, hB⟩
theorem rnumber_any (s : ByteArray) (x : Nat) (w : World) (h1 : 1 ≤ s.size) (h8 : s.size ≤ 8) (hx : numOf (bytesOf s) = x) :
 Calls Tryz.prog 40 #[.string s] w fun e w' => e = .returned (.tuple #[.int .u64 x, .int .i64 0]) ∧ w = w' := by
 have hl := bytesOf_length s
 have q : unfixed (bytesOf s) = (numOf (bytesOf s), 0) := unfixed_pos (by omega) (by omega)
 subst hx
 refine (runfixed_any s w (by omega)).mono ?_
 rw [q]
 exact fun _ _ h => h
theorem bytes_tail (s : ByteArray) (k : Nat) : bytesOf (s.extract k s.size) = (bytesOf s).drop k := by
 rw [bytesOf_extract, List.take_of_length_le (by rw [bytesOf_length]; exact Nat.le_refl _)]
theorem sealSum_any (s : ByteArray) (w : World) :
 Calls Tryz.prog 62 #[.string s] w fun e w' => e = .returned (.int .u64 (sumAt (bytesOf s) : Nat)) ∧ Below w.heap.size w w' := by
 have hl := bytesOf_length s
 by_cases h : s.size = 256
 · have q : numOf (bytesOf (s.extract 248 256)) = sumAt (bytesOf s) := by
    unfold sumAt
    rw [if_pos (by omega), ← h, bytes_tail]
   go_enter Tryz.func62, Tryz.ntmps62
   go_wp2_with fail
   refine (number_any _ _ _ (by simp [h]) (by simp [h]) q).mono ?_
   rintro e w' ⟨rfl, hB⟩
   go_wp2_with fail
   go_ret
   exact ⟨rfl, hB⟩
 · have q : sumAt (bytesOf s) = 0 := by unfold sumAt; rw [if_neg (by omega)]
   rw [q]
   have h' : (s.size == 256) = false := by simpa using h
   have h2 : ((s.size : Int) == 256) = false := by simp; omega
   go_enter Tryz.func62, Tryz.ntmps62
   go_wp2_with fail
   go_ret
   exact ⟨rfl, Below.refl _ _⟩
theorem rsealSum_any (s : ByteArray) (w : World) :
 Calls Tryz.prog 69 #[.string s] w fun e w' => e = .returned (.int .u64 (sumAt (bytesOf s) : Nat)) ∧ w = w' := by
 have hl := bytesOf_length s
 by_cases h : s.size = 256
 · have q : numOf (bytesOf (s.extract 248 256)) = sumAt (bytesOf s) := by
    unfold sumAt
    rw [if_pos (by omega), ← h, bytes_tail]
   go_enter Tryz.func69, Tryz.ntmps69
   go_wp2_with fail
   refine (rnumber_any _ _ _ (by simp [h]) (by simp [h]) q).mono ?_
   rintro e w' ⟨rfl, hB⟩
   go_wp2_with fail
   go_ret
   exact ⟨rfl, hB⟩
 · have q : sumAt (bytesOf s) = 0 := by unfold sumAt; rw [if_neg (by omega)]
   rw [q]
   have h' : (s.size == 256) = false := by simpa using h
   have h2 : ((s.size : Int) == 256) = false := by simp; omega
   go_enter Tryz.func69, Tryz.ntmps69
   go_wp2_with fail
   go_ret
   exact ⟨rfl, rfl⟩
def fullL (l : List UInt8) : List UInt8 := l.take 232 ++ List.replicate (232 - l.length) 0
theorem fullL_length (l : List UInt8) : (fullL l).length = 232 := by simp [fullL]; omega
def fullS (s : ByteArray) : ByteArray := strOf (fullL (bytesOf s))
theorem fullS_size (s : ByteArray) : (fullS s).size = 232 := by rw [fullS, strOf_size, fullL_length]
theorem bytesOf_fullS (s : ByteArray) : bytesOf (fullS s) = fullL (bytesOf s) := bytesOf_strOf _
set_option maxRecDepth 100000 in
theorem full_any (s : ByteArray) (w : World) (hs : s.size ≤ 281474976710656) :
 Calls Tryz.prog 5 #[.string s] w fun e w' => e = .returned (.string (fullS s)) ∧ Below w.heap.size w w' := by
 have hl := bytesOf_length s
 by_cases h : 232 ≤ s.size
 · have h1 : decide (s.size < 232) = false := by simp; omega
   go_enter Tryz.func5, Tryz.ntmps5
   go_wp2_with fail
   go_ret
   refine ⟨ret_str ?_, Below.refl _ _⟩
   rw [← bytesOf_inj, bytesOf_fullS, bytesOf_extract, fullL, show 232 - (bytesOf s).length = 0 by omega]
   simp
 · have h1 : decide (s.size < 232) = true := by simp; omega
   obtain ⟨m, hm⟩ : ∃ m, m = 232 - s.size := ⟨_, rfl⟩
   have hc : 232 - (s.size : Int) = (m : Int) := by omega
   have hmk : ∀ u : World, (Instr.makeSlice 53 (.int .i64 (232 - (s.size : Int))) (.int .i64 (232 - (s.size : Int)))).run Tryz.prog u = .ok (.slice (some ⟨u.heap.size, 0, none⟩) m m) (u.alloc (.cells (Array.replicate m (.int .u8 0)) 5)) := by
    intro u; rw [hc]; exact make_bytes m (by omega) u
   have hcv := conv_back (w := w.alloc (.cells (Array.replicate m (.int .u8 0)) 5)) (g := w.heap.size) (c := m) (l := List.replicate m 0) (fun j hj => by
    rw [(Blk.new w _ _).cell]
    simp at hj
    simp [hj]) m (by simp)
   have hsz : (strOf (List.replicate m 0)).size = m := by simp [strOf_size]
   have HM := Lib.hid hm
   have hsum : s.size + m ≤ 232 := by omega
   clear hm hc
   go_enter Tryz.func5, Tryz.ntmps5
   go_wp2_with fail
   go_ret
   refine ⟨ret_str ?_, (Below.refl _ _).alloc (Nat.le_refl _) _⟩
   rw [← bytesOf_inj, bytesOf_fullS, bytesOf_append, bytesOf_strOf, fullL, hl, HM.out, List.take_of_length_le (by omega)]
theorem isShort_any (k : Int) (w : World) :
 Calls Tryz.prog 94 #[.int .i64 k] w fun e w' => e = .returned (.bool (short32 k)) ∧ w = w' := by
 unfold short32
 by_cases h0 : k < 0
 · have h1 : decide (0 ≤ k ∧ k < 4294967296) = false := by simp; omega
   rw [h1]
   go_enter Tryz.func94, Tryz.ntmps94
   go_wp2_with fail
   go_ret
   exact ⟨rfl, rfl⟩
 · by_cases h2 : k < 4294967296
   · have h1 : decide (0 ≤ k ∧ k < 4294967296) = true := by simp; omega
     rw [h1]
     go_enter Tryz.func94, Tryz.ntmps94
     go_wp2_with fail
     go_ret
     exact ⟨rfl, rfl⟩
   · have h1 : decide (0 ≤ k ∧ k < 4294967296) = false := by simp; omega
     rw [h1]
     go_enter Tryz.func94, Tryz.ntmps94
     go_wp2_with fail
     go_ret
     exact ⟨rfl, rfl⟩
theorem sum_at {B : Nat} {w0 : World} (s : ByteArray) (m : Nat) (w : World) (hm : mixSum 1 (bytesOf s) = m) (hs : s.size ≤ 281474976710656) (hle : B ≤ w0.heap.size) (hB : Below B w0 w) :
 Calls Tryz.prog 63 #[.int .u64 1, .string s] w fun e w' => e = .returned (.int .u64 m) ∧ Below B w0 w' := by
 subst hm
 exact sum_c 1 s w (by unfold U64; omega) hs hle hB
theorem rsum_at (s : ByteArray) (m : Nat) (w : World) (hm : mixSum 1 (bytesOf s) = m) (hs : s.size ≤ 281474976710656) :
 Calls Tryz.prog 26 #[.int .u64 1, .string s] w fun e w' => e = .returned (.int .u64 m) ∧ w = w' := by
 subst hm
 exact ref_c 1 s w (by unfold U64; omega) hs
theorem fix4 (n : Nat) (w : World) :
 Calls Tryz.prog 80 #[.int .u64 n, .int .i64 4] w fun e w' => e = .returned (.string (strOf (fixedL n 4))) ∧ Below w.heap.size w w' := by
 have h := fixed_any n 4 w (by decide) (by decide)
 rwa [show wd 4 = 4 by decide] at h
theorem fix8 (n : Nat) (w : World) :
 Calls Tryz.prog 80 #[.int .u64 n, .int .i64 8] w fun e w' => e = .returned (.string (strOf (fixedL n 8))) ∧ Below w.heap.size w w' := by
 have h := fixed_any n 8 w (by decide) (by decide)
 rwa [show wd 8 = 8 by decide] at h
theorem rfix4 (n : Nat) (w : World) :
 Calls Tryz.prog 25 #[.int .u64 n, .int .i64 4] w fun e w' => e = .returned (.string (strOf (fixedL n 4))) ∧ Below w.heap.size w w' := by
 have h := rfixed_any n 4 w (by decide) (by decide)
 rwa [show wd 4 = 4 by decide] at h
theorem rfix8 (n : Nat) (w : World) :
 Calls Tryz.prog 25 #[.int .u64 n, .int .i64 8] w fun e w' => e = .returned (.string (strOf (fixedL n 8))) ∧ Below w.heap.size w w' := by
 have h := rfixed_any n 8 w (by decide) (by decide)
 rwa [show wd 8 = 8 by decide] at h
def closeS (k n : Int) (salt : Nat) (d : ByteArray) : ByteArray := if sealOk k n (bytesOf d) = true then strOf (sealL k n salt (bytesOf d)) else ⟨#[]⟩
def closeE (k n : Int) (d : ByteArray) : Int := if sealOk k n (bytesOf d) = true then 0 else 1
set_option maxRecDepth 100000 in
set_option maxHeartbeats 4000000 in
theorem close_any (k n salt : Int) (d : ByteArray) (w : World)
 (hs : U64 salt) :
 Calls Tryz.prog 73 #[.agg #[.int .i64 k, .int .i64 n, .int .u64 salt, .string d]] w fun e w' =>
  e = .returned (.tuple #[.string (closeS k n salt.toNat d), .int .i64 (closeE k n d)]) ∧ Below w.heap.size w w' := by
 have hl := bytesOf_length d
 by_cases h : sealOk k n (bytesOf d) = true
 · rw [closeS, closeE, if_pos h, if_pos h]
   obtain ⟨⟨k0, k1⟩, ⟨n0, n1⟩, h232⟩ := sealOk_iff.1 h
   have s1 : short32 k = true := by simp [short32]; omega
   have s2 : short32 n = true := by simp [short32]; omega
   have s3 : d.size = 232 := by omega
   obtain ⟨k, rfl⟩ := Int.eq_ofNat_of_zero_le k0
   obtain ⟨n, rfl⟩ := Int.eq_ofNat_of_zero_le n0
   obtain ⟨salt, rfl⟩ := Int.eq_ofNat_of_zero_le hs.1
   rw [Int.toNat_natCast]
   have wk : IntKind.u64.wrap (k : Int) = k := U64.wrap (u64_nat (by omega))
   have wn : IntKind.u64.wrap (n : Int) = n := U64.wrap (u64_nat (by omega))
   have f4 : ∀ n, (strOf (fixedL n 4)).size = 4 := fun n => by rw [strOf_size, fixedL_length]
   have f8 : ∀ n, (strOf (fixedL n 8)).size = 8 := fun n => by rw [strOf_size, fixedL_length]
   obtain ⟨T, hT⟩ : ∃ T, d ++ strOf (fixedL k 4) ++ strOf (fixedL n 4) ++ strOf (fixedL salt 8) = T := ⟨_, rfl⟩
   have hTs : T.size = 248 := by rw [← hT]; simp [f4, f8, s3]
   have hTb : bytesOf T = sealHead k n salt (bytesOf d) := by rw [← hT]; simp [bytesOf_append, bytesOf_strOf, sealHead]
   obtain ⟨m, hm⟩ : ∃ m, mixSum 1 (bytesOf T) = m := ⟨_, rfl⟩
   have hR : strOf (sealL k n salt (bytesOf d)) = T ++ strOf (fixedL m 8) := by
    rw [← bytesOf_inj, bytesOf_strOf, bytesOf_append, bytesOf_strOf, sealL, ← hTb, ← hm]
   rw [hR]
   have HM := Lib.hid hm
   clear hm hR
   have HS := Lib.hid hs
   clear hl h k0 k1 n0 n1 hTb hs
   go_enter Tryz.func73, Tryz.ntmps73
   go_wp2_with (first
    | (go_at_call 94; refine (isShort_any _ _).mono ?_; rintro e w' ⟨rfl, rfl⟩))
   refine wp_region_plan (fun wz => Blk wz w.heap.size 26 #[.int .i64 k, .int .i64 n, .int .u64 salt, .string d] ∧ Below w.heap.size w wz) [(0, true), (1, true), (2, true), (3, true), (4, true), (7, true), (8, true), (9, true), (12, true), (13, true), (5, false), (6, true), (10, false), (11, true), (14, false), (15, true), (16, true)] (by kernel_rfl) (by kernel_rfl) (fun _ _ _ _ _ h => h) ⟨Blk.new w _ _, ((Below.refl _ _).alloc (Nat.le_refl _) _).drew⟩ ?_
   simp only [planOps, List.map_cons, List.map_nil, List.getD_cons_zero, List.getD_cons_succ]
   have b0 : Blk (w.alloc (.cells #[.int .i64 k, .int .i64 n, .int .u64 salt, .string d] 26)).drew w.heap.size 26 #[.int .i64 k, .int .i64 n, .int .u64 salt, .string d] := Blk.new w _ _
   have B0 := ((Below.refl w.heap.size w).alloc (Nat.le_refl _) (.cells #[.int .i64 k, .int .i64 n, .int .u64 salt, .string d] 26)).drew
   generalize (w.alloc (.cells #[.int .i64 k, .int .i64 n, .int .u64 salt, .string d] 26)).drew = v0 at b0 B0 ⊢
   repeat (refine wpPlan_pure (fun K hK => ?_); first | (refine Or.inl ⟨rfl, ?_, fun wy hS => ?_, ?_⟩; rotate_left; (focus (have hc := hS.1.cell; go_simp; exact rfl)); go_simp; refine hK _ ?_; clear hK K) | (refine Or.inr ⟨rfl, ?_⟩; go_simp; refine hK _ ?_; clear hK K))
   refine wpPlan_lone (fun K hK => ?_); refine ⟨rfl, ?_⟩; go_simp
   refine (fix4 _ _).mono ?_
   rintro e v1 ⟨rfl, h1⟩
   have b1 := b0.below h1 b0.lt
   have B1 := below_chain B0 h1 (Nat.le_refl _)
   go_simp
   refine hK _ _ ⟨b1, B1⟩ ?_
   clear hK K
   repeat (refine wpPlan_pure (fun K hK => ?_); first | (refine Or.inl ⟨rfl, ?_, fun wy hS => ?_, ?_⟩; rotate_left; (focus (have hc := hS.1.cell; go_simp; exact rfl)); go_simp; refine hK _ ?_; clear hK K) | (refine Or.inr ⟨rfl, ?_⟩; go_simp; refine hK _ ?_; clear hK K))
   refine wpPlan_lone (fun K hK => ?_); refine ⟨rfl, ?_⟩; go_simp
   refine (fix4 _ _).mono ?_
   rintro e v2 ⟨rfl, h2⟩
   have b2 := b1.below h2 b1.lt
   have B2 := below_chain B1 h2 (Nat.le_refl _)
   go_simp
   refine hK _ _ ⟨b2, B2⟩ ?_
   clear hK K
   repeat (refine wpPlan_pure (fun K hK => ?_); first | (refine Or.inl ⟨rfl, ?_, fun wy hS => ?_, ?_⟩; rotate_left; (focus (have hc := hS.1.cell; go_simp; exact rfl)); go_simp; refine hK _ ?_; clear hK K) | (refine Or.inr ⟨rfl, ?_⟩; go_simp; refine hK _ ?_; clear hK K))
   refine wpPlan_lone (fun K hK => ?_); refine ⟨rfl, ?_⟩; go_simp
   refine (fix8 _ _).mono ?_
   rintro e v3 ⟨rfl, h3⟩
   have b3 := b2.below h3 b2.lt
   have B3 := below_chain B2 h3 (Nat.le_refl _)
   go_simp
   refine hK _ _ ⟨b3, B3⟩ ?_
   clear hK K
   repeat (refine wpPlan_pure (fun K hK => ?_); first | (refine Or.inl ⟨rfl, ?_, fun wy hS => ?_, ?_⟩; rotate_left; (focus (have hc := hS.1.cell; go_simp; exact rfl)); go_simp; refine hK _ ?_; clear hK K) | (refine Or.inr ⟨rfl, ?_⟩; go_simp; refine hK _ ?_; clear hK K))
   refine wpPlan_nil ?_
   go_wp2_with fail
   refine (sum_at T m _ HM.out (by omega) (Nat.le_refl _) B3).mono ?_
   rintro e v4 ⟨rfl, B4⟩
   go_wp2_with fail
   refine (carry (Nat.le_refl _) B4 (fix8 _ _)).mono ?_
   rintro e v5 ⟨rfl, B5⟩
   go_wp2_with fail
   go_ret2
   exact ⟨rfl, B5⟩
 · rw [closeS, closeE, if_neg h, if_neg h]
   have hB := Below.refl w.heap.size w
   by_cases s1 : short32 k = true
   · by_cases s2 : short32 n = true
     · have s3 : ¬ d.size = 232 := fun hh => h (by simp [sealOk, s1, s2, hl, hh])
       have s4 : (d.size == 232) = false := by simpa using s3
       have s5 : ((d.size : Int) == 232) = false := by simp; omega
       clear hl h
       go_enter Tryz.func73, Tryz.ntmps73
       go_wp2_with (first
        | (go_at_call 94; refine (isShort_any _ _).mono ?_; rintro e w' ⟨rfl, rfl⟩))
       go_ret2
       exact ⟨rfl, hB.alloc (Nat.le_refl _) _⟩
     · replace s2 : short32 n = false := by simpa using s2
       clear hl h
       go_enter Tryz.func73, Tryz.ntmps73
       go_wp2_with (first
        | (go_at_call 94; refine (isShort_any _ _).mono ?_; rintro e w' ⟨rfl, rfl⟩))
       go_ret2
       exact ⟨rfl, hB.alloc (Nat.le_refl _) _⟩
   · replace s1 : short32 k = false := by simpa using s1
     clear hl h
     go_enter Tryz.func73, Tryz.ntmps73
     go_wp2_with (first
      | (go_at_call 94; refine (isShort_any _ _).mono ?_; rintro e w' ⟨rfl, rfl⟩))
     go_ret2
     exact ⟨rfl, hB.alloc (Nat.le_refl _) _⟩
set_option maxRecDepth 100000 in
set_option maxHeartbeats 4000000 in
theorem rclose_any (k n salt : Int) (d : ByteArray) (w : World)
 (hs : U64 salt) :
 Calls Tryz.prog 6 #[.agg #[.int .i64 k, .int .i64 n, .int .u64 salt, .string d]] w fun e w' =>
  e = .returned (.tuple #[.string (closeS k n salt.toNat d), .int .i64 (closeE k n d)]) ∧ Below w.heap.size w w' := by
 have hl := bytesOf_length d
 by_cases h : sealOk k n (bytesOf d) = true
 · rw [closeS, closeE, if_pos h, if_pos h]
   obtain ⟨⟨k0, k1⟩, ⟨n0, n1⟩, h232⟩ := sealOk_iff.1 h
   have s1 : short32 k = true := by simp [short32]; omega
   have s2 : short32 n = true := by simp [short32]; omega
   have s3 : d.size = 232 := by omega
   obtain ⟨k, rfl⟩ := Int.eq_ofNat_of_zero_le k0
   obtain ⟨n, rfl⟩ := Int.eq_ofNat_of_zero_le n0
   obtain ⟨salt, rfl⟩ := Int.eq_ofNat_of_zero_le hs.1
   rw [Int.toNat_natCast]
   have wk : IntKind.u64.wrap (k : Int) = k := U64.wrap (u64_nat (by omega))
   have wn : IntKind.u64.wrap (n : Int) = n := U64.wrap (u64_nat (by omega))
   have f4 : ∀ n, (strOf (fixedL n 4)).size = 4 := fun n => by rw [strOf_size, fixedL_length]
   have f8 : ∀ n, (strOf (fixedL n 8)).size = 8 := fun n => by rw [strOf_size, fixedL_length]
   obtain ⟨T, hT⟩ : ∃ T, d ++ strOf (fixedL k 4) ++ strOf (fixedL n 4) ++ strOf (fixedL salt 8) = T := ⟨_, rfl⟩
   have hTs : T.size = 248 := by rw [← hT]; simp [f4, f8, s3]
   have hTb : bytesOf T = sealHead k n salt (bytesOf d) := by rw [← hT]; simp [bytesOf_append, bytesOf_strOf, sealHead]
   obtain ⟨m, hm⟩ : ∃ m, mixSum 1 (bytesOf T) = m := ⟨_, rfl⟩
   have hR : strOf (sealL k n salt (bytesOf d)) = T ++ strOf (fixedL m 8) := by
    rw [← bytesOf_inj, bytesOf_strOf, bytesOf_append, bytesOf_strOf, sealL, ← hTb, ← hm]
   rw [hR]
   have HM := Lib.hid hm
   clear hm hR
   have HS := Lib.hid hs
   have g1 : decide ((k : Int) < 0) = false := by simp
   have g2 : decide (4294967295 < (k : Int)) = false := by simp; omega
   have g3 : decide ((n : Int) < 0) = false := by simp
   have g4 : decide (4294967295 < (n : Int)) = false := by simp; omega
   clear hl h k0 k1 n0 n1 hTb hs
   go_enter Tryz.func6, Tryz.ntmps6
   go_wp2_with fail
   refine wp_region_plan (fun wz => Blk wz w.heap.size 26 #[.int .i64 k, .int .i64 n, .int .u64 salt, .string d] ∧ Below w.heap.size w wz) [(0, true), (1, true), (2, true), (3, true), (4, true), (7, true), (8, true), (9, true), (12, true), (13, true), (5, false), (6, true), (10, false), (11, true), (14, false), (15, true), (16, true)] (by kernel_rfl) (by kernel_rfl) (fun _ _ _ _ _ h => h) ⟨Blk.new w _ _, ((Below.refl _ _).alloc (Nat.le_refl _) _).drew⟩ ?_
   simp only [planOps, List.map_cons, List.map_nil, List.getD_cons_zero, List.getD_cons_succ]
   have b0 : Blk (w.alloc (.cells #[.int .i64 k, .int .i64 n, .int .u64 salt, .string d] 26)).drew w.heap.size 26 #[.int .i64 k, .int .i64 n, .int .u64 salt, .string d] := Blk.new w _ _
   have B0 := ((Below.refl w.heap.size w).alloc (Nat.le_refl _) (.cells #[.int .i64 k, .int .i64 n, .int .u64 salt, .string d] 26)).drew
   generalize (w.alloc (.cells #[.int .i64 k, .int .i64 n, .int .u64 salt, .string d] 26)).drew = v0 at b0 B0 ⊢
   repeat (refine wpPlan_pure (fun K hK => ?_); first | (refine Or.inl ⟨rfl, ?_, fun wy hS => ?_, ?_⟩; rotate_left; (focus (have hc := hS.1.cell; go_simp; exact rfl)); go_simp; refine hK _ ?_; clear hK K) | (refine Or.inr ⟨rfl, ?_⟩; go_simp; refine hK _ ?_; clear hK K))
   refine wpPlan_lone (fun K hK => ?_); refine ⟨rfl, ?_⟩; go_simp
   refine (rfix4 _ _).mono ?_
   rintro e v1 ⟨rfl, h1⟩
   have b1 := b0.below h1 b0.lt
   have B1 := below_chain B0 h1 (Nat.le_refl _)
   go_simp
   refine hK _ _ ⟨b1, B1⟩ ?_
   clear hK K
   repeat (refine wpPlan_pure (fun K hK => ?_); first | (refine Or.inl ⟨rfl, ?_, fun wy hS => ?_, ?_⟩; rotate_left; (focus (have hc := hS.1.cell; go_simp; exact rfl)); go_simp; refine hK _ ?_; clear hK K) | (refine Or.inr ⟨rfl, ?_⟩; go_simp; refine hK _ ?_; clear hK K))
   refine wpPlan_lone (fun K hK => ?_); refine ⟨rfl, ?_⟩; go_simp
   refine (rfix4 _ _).mono ?_
   rintro e v2 ⟨rfl, h2⟩
   have b2 := b1.below h2 b1.lt
   have B2 := below_chain B1 h2 (Nat.le_refl _)
   go_simp
   refine hK _ _ ⟨b2, B2⟩ ?_
   clear hK K
   repeat (refine wpPlan_pure (fun K hK => ?_); first | (refine Or.inl ⟨rfl, ?_, fun wy hS => ?_, ?_⟩; rotate_left; (focus (have hc := hS.1.cell; go_simp; exact rfl)); go_simp; refine hK _ ?_; clear hK K) | (refine Or.inr ⟨rfl, ?_⟩; go_simp; refine hK _ ?_; clear hK K))
   refine wpPlan_lone (fun K hK => ?_); refine ⟨rfl, ?_⟩; go_simp
   refine (rfix8 _ _).mono ?_
   rintro e v3 ⟨rfl, h3⟩
   have b3 := b2.below h3 b2.lt
   have B3 := below_chain B2 h3 (Nat.le_refl _)
   go_simp
   refine hK _ _ ⟨b3, B3⟩ ?_
   clear hK K
   repeat (refine wpPlan_pure (fun K hK => ?_); first | (refine Or.inl ⟨rfl, ?_, fun wy hS => ?_, ?_⟩; rotate_left; (focus (have hc := hS.1.cell; go_simp; exact rfl)); go_simp; refine hK _ ?_; clear hK K) | (refine Or.inr ⟨rfl, ?_⟩; go_simp; refine hK _ ?_; clear hK K))
   refine wpPlan_nil ?_
   go_wp2_with fail
   refine (rsum_at T m _ HM.out (by omega)).mono ?_
   rintro e v4 ⟨rfl, hv4⟩
   subst hv4
   go_wp2_with fail
   refine (carry (Nat.le_refl _) B3 (rfix8 _ _)).mono ?_
   rintro e v5 ⟨rfl, B5⟩
   go_wp2_with fail
   go_ret2
   exact ⟨rfl, B5⟩
 · rw [closeS, closeE, if_neg h, if_neg h]
   have hB := Below.refl w.heap.size w
   have key : k < 0 ∨ 4294967295 < k ∨ n < 0 ∨ 4294967295 < n ∨ d.size ≠ 232 := by
    by_cases a1 : k < 0
    · omega
    by_cases a2 : 4294967295 < k
    · omega
    by_cases a3 : n < 0
    · omega
    by_cases a4 : 4294967295 < n
    · omega
    exact .inr (.inr (.inr (.inr fun hh => h (sealOk_iff.2 ⟨⟨by omega, by omega⟩, ⟨by omega, by omega⟩, by omega⟩))))
   clear hl h
   go_enter Tryz.func6, Tryz.ntmps6
   go_wp2_with fail
   all_goals first
    | (go_ret2; exact ⟨rfl, hB.alloc (Nat.le_refl _) _⟩)
    | (exfalso; omega)
    | (exfalso; simp_all; omega)
def openV (s : ByteArray) : Value := if isSeal (bytesOf s) = true then .agg #[.int .i64 (kindAt (bytesOf s) : Nat), .int .i64 (numberAt (bytesOf s) : Nat), .int .u64 (saltAt (bytesOf s) : Nat), .string (s.extract 0 232)]
 else .agg #[.int .i64 0, .int .i64 0, .int .u64 0, .string ⟨#[]⟩]
def openE (s : ByteArray) : Int := if isSeal (bytesOf s) = true then 0 else if s.size = 256 then 20 else 1
set_option maxRecDepth 100000 in
set_option maxHeartbeats 4000000 in
theorem open_any (s : ByteArray) (w : World) :
 Calls Tryz.prog 36 #[.string s] w fun e w' => e = .returned (.tuple #[openV s, .int .i64 (openE s)]) ∧ Below w.heap.size w w' := by
 have hl := bytesOf_length s
 have hB := Below.refl w.heap.size w
 by_cases h : s.size = 256
 · have q1 : numOf (bytesOf (s.extract 232 236)) = kindAt (bytesOf s) := by rw [bytesOf_extract, kindAt, List.drop_take]
   have q2 : numOf (bytesOf (s.extract 236 240)) = numberAt (bytesOf s) := by rw [bytesOf_extract, numberAt, List.drop_take]
   have q3 : numOf (bytesOf (s.extract 240 248)) = saltAt (bytesOf s) := by rw [bytesOf_extract, saltAt, List.drop_take]
   have q4 : bytesOf (s.extract 0 248) = (bytesOf s).take 248 := by rw [bytesOf_extract, List.drop_zero]
   obtain ⟨m, hm⟩ : ∃ m, mixSum 1 (bytesOf (s.extract 0 248)) = m := ⟨_, rfl⟩
   have hx : sumAt (bytesOf s) = numOf ((bytesOf s).drop 248) := by unfold sumAt; rw [if_pos (by omega)]
   have hi : isSeal (bytesOf s) = true ↔ sumAt (bytesOf s) = m := by
    rw [isSeal_iff, hx, ← hm, q4]
    exact ⟨fun hh => hh.2, fun hh => ⟨by omega, hh⟩⟩
   have n1 := kindAt_lt (bytesOf s)
   have n2 := numberAt_lt (bytesOf s)
   have hs1 := sealSum_any s
   unfold openV openE
   rw [if_pos h]
   generalize kindAt (bytesOf s) = k at *
   generalize numberAt (bytesOf s) = n at *
   generalize saltAt (bytesOf s) = salt at *
   generalize sumAt (bytesOf s) = x at *
   have HM := Lib.hid hm
   have Q1 := Lib.hid q1
   have Q2 := Lib.hid q2
   have Q3 := Lib.hid q3
   clear hm q1 q2 q3 q4 hx hl
   have c1 : ∀ i j, i ≤ j → j ≤ 256 → (s.extract i j).size = j - i := fun i j hij hj => by rw [ByteArray.size_extract]; omega
   by_cases hg : isSeal (bytesOf s) = true
   · rw [if_pos hg, if_pos hg]
     obtain rfl := hi.1 hg
     have wk : IntKind.i64.wrap (k : Int) = k := by unfold IntKind.wrap; simp [IntKind.bits, IntKind.signed]; omega
     have wn : IntKind.i64.wrap (n : Int) = n := by unfold IntKind.wrap; simp [IntKind.bits, IntKind.signed]; omega
     clear hi hg
     go_enter Tryz.func36, Tryz.ntmps36
     go_wp2_with fail
     have b0 : Blk (w.alloc (.cells #[.int .i64 0, .int .i64 0, .int .u64 0, .string ⟨#[]⟩] 26)).drew w.heap.size 26 #[.int .i64 0, .int .i64 0, .int .u64 0, .string ⟨#[]⟩] := Blk.new w _ _
     have B0 := ((Below.refl w.heap.size w).alloc (Nat.le_refl _) (.cells #[.int .i64 0, .int .i64 0, .int .u64 0, .string ⟨#[]⟩] 26)).drew
     refine wp_region_plan (fun wz => Blk wz w.heap.size 26 #[.int .i64 0, .int .i64 0, .int .u64 0, .string ⟨#[]⟩] ∧ Below w.heap.size w wz) [(0, true), (2, true), (3, true), (1, false), (4, false), (5, true), (6, true)] (by kernel_rfl) (by kernel_rfl) (fun _ _ _ _ _ h => h) ⟨b0, B0⟩ ?_
     simp only [planOps, List.map_cons, List.map_nil, List.getD_cons_zero, List.getD_cons_succ]
     generalize (w.alloc (.cells #[.int .i64 0, .int .i64 0, .int .u64 0, .string ⟨#[]⟩] 26)).drew = v0 at b0 B0 ⊢
     repeat (refine wpPlan_pure (fun K hK => ?_); first | (refine Or.inl ⟨rfl, ?_, fun wy hS => ?_, ?_⟩; rotate_left; (focus (have hc := hS.1.cell; go_simp; exact rfl)); go_simp; refine hK _ ?_; clear hK K) | (refine Or.inr ⟨rfl, ?_⟩; go_simp; refine hK _ ?_; clear hK K))
     refine wpPlan_lone (fun K hK => ?_); refine ⟨rfl, ?_⟩; go_simp
     refine (hs1 _).mono ?_
     rintro e v1 ⟨rfl, h1⟩
     have b1 := b0.below h1 b0.lt
     have B1 := below_chain B0 h1 (Nat.le_refl _)
     go_simp
     refine hK _ _ ⟨b1, B1⟩ ?_
     clear hK K
     refine wpPlan_lone (fun K hK => ?_); refine ⟨rfl, ?_⟩; go_simp
     refine (sum_at (B := v1.heap.size) _ _ _ HM.out (by rw [c1 _ _ (by decide) (by decide)]; decide) (Nat.le_refl _) (Below.refl _ _)).mono ?_
     rintro e v2 ⟨rfl, h2⟩
     have b2 := b1.below h2 b1.lt
     have B2 := below_chain B1 h2 (Nat.le_refl _)
     go_simp
     refine hK _ _ ⟨b2, B2⟩ ?_
     clear hK K
     repeat (refine wpPlan_pure (fun K hK => ?_); first | (refine Or.inl ⟨rfl, ?_, fun wy hS => ?_, ?_⟩; rotate_left; (focus (have hc := hS.1.cell; go_simp; exact rfl)); go_simp; refine hK _ ?_; clear hK K) | (refine Or.inr ⟨rfl, ?_⟩; go_simp; refine hK _ ?_; clear hK K))
     refine wpPlan_nil ?_
     go_wp2_with fail
     have hb2 : v2.heap[w.heap.size]? = _ := b2
     refine wp_region_plan (fun wz => (∃ cs, Blk wz w.heap.size 26 cs) ∧ Below w.heap.size w wz) [(0, true), (1, true), (4, true), (5, true), (8, true), (9, true), (11, true), (12, true), (2, false), (3, true), (6, false), (7, true), (10, false), (13, false), (14, false), (15, true)] (by kernel_rfl) (by kernel_rfl) (fun _ _ _ _ _ h => h) ⟨⟨_, b2⟩, B2.drew⟩ ?_
     simp only [planOps, List.map_cons, List.map_nil, List.getD_cons_zero, List.getD_cons_succ]
     replace b2 : Blk v2.drew _ _ _ := b2
     replace B2 : Below _ _ v2.drew := B2.drew
     clear hb2 h1 h2 b1 B1 b0 B0
     generalize v2.drew = v2 at b2 B2 ⊢
     repeat (refine wpPlan_pure (fun K hK => ?_); first | (refine Or.inl ⟨rfl, ?_, fun wy hS => ?_, ?_⟩; rotate_left; (focus (go_simp; exact rfl)); go_simp; refine hK _ ?_; clear hK K) | (refine Or.inr ⟨rfl, ?_⟩; go_simp; refine hK _ ?_; clear hK K))
     refine wpPlan_lone (fun K hK => ?_); refine ⟨rfl, ?_⟩; go_simp
     refine (number_any _ _ _ (by rw [c1 _ _ (by decide) (by decide)]; decide) (by rw [c1 _ _ (by decide) (by decide)]; decide) Q1.out).mono ?_
     rintro e v3 ⟨rfl, h3⟩
     have b3 := b2.below h3 b2.lt
     have B3 := below_chain B2 h3 (Nat.le_refl _)
     go_simp
     refine hK _ _ ⟨⟨_, b3⟩, B3⟩ ?_
     clear hK K
     repeat (refine wpPlan_pure (fun K hK => ?_); first | (refine Or.inl ⟨rfl, ?_, fun wy hS => ?_, ?_⟩; rotate_left; (focus (go_simp; exact rfl)); go_simp; refine hK _ ?_; clear hK K) | (refine Or.inr ⟨rfl, ?_⟩; go_simp; refine hK _ ?_; clear hK K))
     refine wpPlan_lone (fun K hK => ?_); refine ⟨rfl, ?_⟩; go_simp
     refine (number_any _ _ _ (by rw [c1 _ _ (by decide) (by decide)]; decide) (by rw [c1 _ _ (by decide) (by decide)]; decide) Q2.out).mono ?_
     rintro e v4 ⟨rfl, h4⟩
     have b4 := b3.below h4 b3.lt
     have B4 := below_chain B3 h4 (Nat.le_refl _)
     go_simp
     refine hK _ _ ⟨⟨_, b4⟩, B4⟩ ?_
     clear hK K
     repeat (refine wpPlan_pure (fun K hK => ?_); first | (refine Or.inl ⟨rfl, ?_, fun wy hS => ?_, ?_⟩; rotate_left; (focus (go_simp; exact rfl)); go_simp; refine hK _ ?_; clear hK K) | (refine Or.inr ⟨rfl, ?_⟩; go_simp; refine hK _ ?_; clear hK K))
     refine wpPlan_lone (fun K hK => ?_); refine ⟨rfl, ?_⟩; go_simp
     refine (number_any _ _ _ (by rw [c1 _ _ (by decide) (by decide)]; decide) (by rw [c1 _ _ (by decide) (by decide)]; decide) Q3.out).mono ?_
     rintro e v5 ⟨rfl, h5⟩
     have b5 := b4.below h5 b4.lt
     have B5 := below_chain B4 h5 (Nat.le_refl _)
     go_simp
     refine hK _ _ ⟨⟨_, b5⟩, B5⟩ ?_
     clear hK K
     repeat (refine wpPlan_pure (fun K hK => ?_); first | (refine Or.inl ⟨rfl, ?_, fun wy hS => ?_, ?_⟩; rotate_left; (focus (go_simp; exact rfl)); go_simp; refine hK _ ?_; clear hK K) | (refine Or.inr ⟨rfl, ?_⟩; go_simp; refine hK _ ?_; clear hK K))
     refine wpPlan_lone (fun K hK => ?_); refine ⟨rfl, ?_⟩; go_simp
     refine hK _ _ ⟨⟨_, b5⟩, B5⟩ ?_
     clear hK K
     have hb5 : v5.heap[w.heap.size]? = _ := b5
     have hc := b5.cell
     have hf := b5.frozen
     refine wpPlan_lone (fun K hK => ?_); refine ⟨rfl, ?_⟩; go_simp
     clear hb5 hc hf
     have B6 := (((B5.setCell (p := ⟨w.heap.size, 0, none⟩) (Nat.le_refl _) (.int .i64 k)).setCell (p := ⟨w.heap.size, 1, none⟩) (Nat.le_refl _) (.int .i64 n)).setCell (p := ⟨w.heap.size, 2, none⟩) (Nat.le_refl _) (.int .u64 salt)).setCell (p := ⟨w.heap.size, 3, none⟩) (Nat.le_refl _) (.string (s.extract 0 232))
     have b6 : Blk _ _ _ #[.int .i64 k, .int .i64 n, .int .u64 salt, .string (s.extract 0 232)] := (((b5.set 0 (.int .i64 k)).set 1 (.int .i64 n)).set 2 (.int .u64 salt)).set 3 (.string (s.extract 0 232))
     generalize (((v5.setCell ⟨w.heap.size, 0, none⟩ (.int .i64 k)).setCell ⟨w.heap.size, 1, none⟩ (.int .i64 n)).setCell ⟨w.heap.size, 2, none⟩ (.int .u64 salt)).setCell ⟨w.heap.size, 3, none⟩ (.string (s.extract 0 232)) = v6 at b6 B6 ⊢
     refine hK _ _ ⟨⟨_, b6⟩, B6⟩ ?_
     clear hK K
     repeat (refine wpPlan_pure (fun K hK => ?_); first | (refine Or.inl ⟨rfl, ?_, fun wy hS => ?_, ?_⟩; rotate_left; (focus (go_simp; exact rfl)); go_simp; refine hK _ ?_; clear hK K) | (refine Or.inr ⟨rfl, ?_⟩; go_simp; refine hK _ ?_; clear hK K))
     refine wpPlan_nil ?_
     go_wp2_with fail
     have c6 := b6.cell
     refine bodyPost_ret (v := .tuple #[.agg #[.int .i64 k, .int .i64 n, .int .u64 salt, .string (s.extract 0 232)], .int .i64 0]) (by simp [results, Tryz.results36, go_sem, c6]) rfl ⟨rfl, B6⟩
   · rw [if_neg hg, if_neg hg]
     have hne : ((x : Int) == m) = false := by
      simp only [beq_eq_false_iff_ne, ne_eq, Int.natCast_inj]
      exact fun hh => hg (hi.2 hh)
     have hne' : (x == m) = false := by simpa using fun hh => hg (hi.2 hh)
     clear hi hg
     go_enter Tryz.func36, Tryz.ntmps36
     go_wp2_with fail
     have b0 : Blk (w.alloc (.cells #[.int .i64 0, .int .i64 0, .int .u64 0, .string ⟨#[]⟩] 26)).drew w.heap.size 26 #[.int .i64 0, .int .i64 0, .int .u64 0, .string ⟨#[]⟩] := Blk.new w _ _
     have B0 := ((Below.refl w.heap.size w).alloc (Nat.le_refl _) (.cells #[.int .i64 0, .int .i64 0, .int .u64 0, .string ⟨#[]⟩] 26)).drew
     refine wp_region_plan (fun wz => Blk wz w.heap.size 26 #[.int .i64 0, .int .i64 0, .int .u64 0, .string ⟨#[]⟩] ∧ Below w.heap.size w wz) [(0, true), (2, true), (3, true), (1, false), (4, false), (5, true), (6, true)] (by kernel_rfl) (by kernel_rfl) (fun _ _ _ _ _ h => h) ⟨b0, B0⟩ ?_
     simp only [planOps, List.map_cons, List.map_nil, List.getD_cons_zero, List.getD_cons_succ]
     generalize (w.alloc (.cells #[.int .i64 0, .int .i64 0, .int .u64 0, .string ⟨#[]⟩] 26)).drew = v0 at b0 B0 ⊢
     repeat (refine wpPlan_pure (fun K hK => ?_); first | (refine Or.inl ⟨rfl, ?_, fun wy hS => ?_, ?_⟩; rotate_left; (focus (have hc := hS.1.cell; go_simp; exact rfl)); go_simp; refine hK _ ?_; clear hK K) | (refine Or.inr ⟨rfl, ?_⟩; go_simp; refine hK _ ?_; clear hK K))
     refine wpPlan_lone (fun K hK => ?_); refine ⟨rfl, ?_⟩; go_simp
     refine (hs1 _).mono ?_
     rintro e v1 ⟨rfl, h1⟩
     have b1 := b0.below h1 b0.lt
     have B1 := below_chain B0 h1 (Nat.le_refl _)
     go_simp
     refine hK _ _ ⟨b1, B1⟩ ?_
     clear hK K
     refine wpPlan_lone (fun K hK => ?_); refine ⟨rfl, ?_⟩; go_simp
     refine (sum_at (B := v1.heap.size) _ _ _ HM.out (by rw [c1 _ _ (by decide) (by decide)]; decide) (Nat.le_refl _) (Below.refl _ _)).mono ?_
     rintro e v2 ⟨rfl, h2⟩
     have b2 := b1.below h2 b1.lt
     have B2 := below_chain B1 h2 (Nat.le_refl _)
     go_simp
     refine hK _ _ ⟨b2, B2⟩ ?_
     clear hK K
     repeat (refine wpPlan_pure (fun K hK => ?_); first | (refine Or.inl ⟨rfl, ?_, fun wy hS => ?_, ?_⟩; rotate_left; (focus (have hc := hS.1.cell; go_simp; exact rfl)); go_simp; refine hK _ ?_; clear hK K) | (refine Or.inr ⟨rfl, ?_⟩; go_simp; refine hK _ ?_; clear hK K))
     refine wpPlan_nil ?_
     have hb2 : v2.heap[w.heap.size]? = _ := b2
     have hc := b2.cell
     have hf := b2.frozen
     clear b0 B0 b1 B1 h1 h2 c1 hs1 HM Q1 Q2 Q3 n1 n2
     clear hB
     have B2' := Lib.hid B2
     clear B2
     go_wp2_with fail
     clear hc hf hb2
     have B2 := B2'.out
     have B6 := (((B2.setCell (p := ⟨w.heap.size, 0, none⟩) (Nat.le_refl _) (.int .i64 0)).setCell (p := ⟨w.heap.size, 1, none⟩) (Nat.le_refl _) (.int .i64 0)).setCell (p := ⟨w.heap.size, 2, none⟩) (Nat.le_refl _) (.int .u64 0)).setCell (p := ⟨w.heap.size, 3, none⟩) (Nat.le_refl _) (.string ⟨#[]⟩)
     have b6 : Blk _ _ _ #[.int .i64 0, .int .i64 0, .int .u64 0, .string ⟨#[]⟩] := (((b2.set 0 (.int .i64 0)).set 1 (.int .i64 0)).set 2 (.int .u64 0)).set 3 (.string ⟨#[]⟩)
     generalize (((v2.setCell ⟨w.heap.size, 0, none⟩ (.int .i64 0)).setCell ⟨w.heap.size, 1, none⟩ (.int .i64 0)).setCell ⟨w.heap.size, 2, none⟩ (.int .u64 0)).setCell ⟨w.heap.size, 3, none⟩ (.string ⟨#[]⟩) = v6 at b6 B6 ⊢
     have c6 := b6.cell
     refine bodyPost_ret (v := .tuple #[.agg #[.int .i64 0, .int .i64 0, .int .u64 0, .string ⟨#[]⟩], .int .i64 20]) (by simp [results, Tryz.results36, go_sem, c6]) rfl ⟨rfl, B6⟩
 · have hn : ¬ isSeal (bytesOf s) = true := fun hh => h (by have := (isSeal_iff.1 hh).1; omega)
   rw [openV, openE, if_neg hn, if_neg hn, if_neg h]
   have h' : (s.size == 256) = false := by simpa using h
   have h2 : ((s.size : Int) == 256) = false := by simp; omega
   go_enter Tryz.func36, Tryz.ntmps36
   go_wp2_with fail
   refine bodyPost_ret (v := .tuple #[.agg #[.int .i64 0, .int .i64 0, .int .u64 0, .string ⟨#[]⟩], .int .i64 1]) (by simp [results, Tryz.results36, go_sem]) rfl ⟨rfl, hB.alloc (Nat.le_refl _) _⟩
end Go.Proofs.YtelolcagncgfpaaGreat
