/- The walks through the laws of the layer seal. -/
import Derived.Test.YthniifphilnokaaSealRef
namespace Go.Proofs.Ythniifphilnokaa
open Go.RowKit
theorem alloc_size (u : World) (o : Obj) : (u.alloc o).heap.size = u.heap.size + 1 := Array.size_push _
theorem openV_close {k n salt : Int} {d : ByteArray} (h : sealOk k n (bytesOf d) = true) (hs : U64 salt) :
    openV (closeS k n salt.toNat d) = .agg #[.int .i64 k, .int .i64 n, .int .u64 salt, .string d] ∧ openE (closeS k n salt.toNat d) = 0 ∧ (closeS k n salt.toNat d).size = 256 := by
  obtain ⟨h1, h2, h3, h4, h5⟩ := seal_open h hs.nat
  have hd : (bytesOf d).length = 232 := (sealOk_iff.1 h).2.2
  have e : bytesOf (closeS k n salt.toNat d) = sealL k n salt.toNat (bytesOf d) := by unfold closeS; rw [if_pos h, bytesOf_strOf]
  have hx : (closeS k n salt.toNat d).extract 0 232 = d := by rw [← bytesOf_inj, bytesOf_extract, e, h2, List.drop_zero]
  have h6 : ((salt.toNat : Nat) : Int) = salt := Int.toNat_of_nonneg hs.1
  refine ⟨?_, ?_, ?_⟩
  · unfold openV; rw [e, if_pos h1, h3, h4, h5, h6, hx]
  · unfold openE; rw [e, if_pos h1]
  · rw [← bytesOf_length, e, sealL_length hd]
theorem awakeS_c {B : Nat} {w0 : World} (w : World) (hle : B ≤ w0.heap.size) (hB : Below B w0 w) :
    Calls Try.prog 11 #[] w fun e w' => e = .returned (.bool true) ∧ Below B w0 w' := by
  have hok : sealOk 1 7 (bytesOf (fullS ⟨#[104, 105]⟩)) = true := by decide +kernel
  obtain ⟨o1, o2, o3⟩ := openV_close hok (salt := 9) (by unfold U64; omega)
  have o4 : closeE 1 7 (fullS ⟨#[104, 105]⟩) = 0 := by unfold closeE; rw [if_pos hok]
  have o5 : openE (strOf (List.replicate 256 0)) = 20 := by decide +kernel
  have o6 : closeE 0 0 ⟨#[]⟩ = 1 := by decide +kernel
  have o7 : sumAt (bytesOf ⟨#[]⟩) = 0 := by decide +kernel
  have o8 : (closeS 1 7 (Int.toNat 9) (fullS ⟨#[104, 105]⟩)).data[235]? = some 1 := by decide +kernel
  have o9 : (closeS 1 7 (Int.toNat 9) (fullS ⟨#[104, 105]⟩)).data[239]? = some 7 := by decide +kernel
  have hC := fun w => close_any 1 7 9 (fullS ⟨#[104, 105]⟩) w (by unfold U64; omega)
  have hZ := fun w => close_any 0 0 0 ⟨#[]⟩ w (by unfold U64; omega)
  rw [o4] at hC
  rw [o6] at hZ
  generalize closeS 1 7 (Int.toNat 9) (fullS ⟨#[104, 105]⟩) = a at *
  have hO := open_any a
  rw [o1, o2] at hO
  have hN := open_any (strOf (List.replicate 256 0))
  rw [o5] at hN
  have hS := sealSum_any ⟨#[]⟩
  rw [o7] at hS
  have hF := full_any ⟨#[104, 105]⟩
  have hmk : ∀ u : World, (Instr.makeSlice 38 (.int .i64 256) (.int .i64 256)).run Try.prog u = .ok (.slice (some ⟨u.heap.size, 0, none⟩) 256 256) (u.alloc (.cells (Array.replicate 256 (.int .u8 0)) 5)) := make_bytes 256 (by omega)
  have hcv : ∀ u : World, (convert 38 9 (.slice (some ⟨u.heap.size, 0, none⟩) 256 256)).run Try.prog (u.alloc (.cells (Array.replicate 256 (.int .u8 0)) 5)) = .ok (.string (strOf (List.replicate 256 0))) (u.alloc (.cells (Array.replicate 256 (.int .u8 0)) 5)) := fun u =>
    conv_back (fun j hj => by
      rw [(Blk.new u _ _).cell]
      rw [List.length_replicate] at hj
      rw [Array.getElem?_replicate, if_pos hj, List.getElem_replicate]; rfl) 256 List.length_replicate
  generalize Array.replicate 256 (Value.int .u8 0) = cs at hmk hcv
  obtain ⟨m0, m1, m2, hV⟩ : ∃ x y z, openV (strOf (List.replicate 256 0)) = .agg #[.int .i64 x, .int .i64 y, .int .u64 z, .string ⟨#[]⟩] := ⟨0, 0, 0, by unfold openV; rw [if_neg (by decide +kernel)]⟩
  rw [hV] at hN
  generalize strOf (List.replicate 256 0) = N at *
  generalize closeS 0 0 (Int.toNat 0) ⟨#[]⟩ = z at hZ
  generalize fullS ⟨#[104, 105]⟩ = d at *
  have p8 : ∀ h : 235 < a.size, ((a[235]'h).toNat : Int) = 1 := fun h => by
    have e : a.data[235]'h = 1 := Option.some.inj ((Array.getElem?_eq_getElem (xs := a.data) h).symm.trans o8)
    show ((a.data[235]'h).toNat : Int) = 1
    rw [e]; rfl
  have p9 : ∀ h : 239 < a.size, ((a[239]'h).toNat : Int) = 7 := fun h => by
    have e : a.data[239]'h = 7 := Option.some.inj ((Array.getElem?_eq_getElem (xs := a.data) h).symm.trans o9)
    show ((a.data[239]'h).toNat : Int) = 7
    rw [e]; rfl
  clear o1 o2 o4 o5 o6 o7 hok hV o8 o9
  go_enter Try.func11, Try.ntmps11
  go_wp2_with fail
  refine (hF _ (by decide)).mono ?_
  rintro e w1 ⟨rfl, B1⟩
  go_wp2_with fail
  have s1 : Blk (w1.alloc (.cells #[.int .i64 1, .int .i64 7, .int .u64 9, .string d] 24)) w1.heap.size 24 #[.int .i64 1, .int .i64 7, .int .u64 9, .string d] := Blk.new _ _ _
  replace B1 := (below_chain hB B1 hle).alloc (Nat.le_trans hle (Below.size (below_chain hB B1 hle))) (.cells #[.int .i64 1, .int .i64 7, .int .u64 9, .string d] 24)
  refine (hC _).mono ?_
  rintro e w2 ⟨rfl, h2⟩
  have s2 := s1.below h2 s1.lt
  have B2 := below_chain B1 h2 hle
  go_wp2_with fail
  refine (hO _).mono ?_
  rintro e w3 ⟨rfl, h3⟩
  have s3 := s2.below h3 s2.lt
  have B3 := below_chain B2 h3 hle
  have t3 : Blk (w3.alloc (.cells #[.int .i64 1, .int .i64 7, .int .u64 9, .string d] 24)) w3.heap.size 24 #[.int .i64 1, .int .i64 7, .int .u64 9, .string d] := Blk.new _ _ _
  clear s1 s2 B1 B2 h2 h3
  have hcv3 := hcv (w3.alloc (.cells #[.int .i64 1, .int .i64 7, .int .u64 9, .string d] 24))
  rw [alloc_size] at hcv3
  go_wp2_with fail
  clear hcv3
  have s4 := (s3.alloc (.cells #[.int .i64 1, .int .i64 7, .int .u64 9, .string d] 24)).alloc (.cells cs 5)
  have t4 := t3.alloc (.cells cs 5)
  have B4 := (B3.alloc (Nat.le_trans hle B3.size) (.cells #[.int .i64 1, .int .i64 7, .int .u64 9, .string d] 24)).alloc (Nat.le_trans hle (Below.size (B3.alloc (Nat.le_trans hle B3.size) (.cells #[.int .i64 1, .int .i64 7, .int .u64 9, .string d] 24)))) (.cells cs 5)
  refine (hN _).mono ?_
  rintro e w5 ⟨rfl, h5⟩
  have s5 := s4.below h5 s4.lt
  have t5 := t4.below h5 t4.lt
  have B5 := below_chain B4 h5 hle
  clear s3 s4 t3 t4 B3 B4 h5
  go_wp2_with fail
  have s6 := s5.alloc (.cells #[.int .i64 m0, .int .i64 m1, .int .u64 m2, .string ⟨#[]⟩] 24)
  have t6 := t5.alloc (.cells #[.int .i64 m0, .int .i64 m1, .int .u64 m2, .string ⟨#[]⟩] 24)
  have B6 := B5.alloc (Nat.le_trans hle B5.size) (.cells #[.int .i64 m0, .int .i64 m1, .int .u64 m2, .string ⟨#[]⟩] 24)
  refine (hZ _).mono ?_
  rintro e w7 ⟨rfl, h7⟩
  have s7 := s6.below h7 s6.lt
  have t7 := t6.below h7 t6.lt
  have B7 := below_chain B6 h7 hle
  clear s5 s6 t5 t6 B5 B6 h7 hmk hcv
  have hs7 : w7.heap[w1.heap.size]? = _ := s7
  have ht7 : w7.heap[w3.heap.size]? = _ := t7
  have hcs := s7.cell
  have hct := t7.cell
  go_wp2_with fail
  refine (carry hle B7 (hS _)).mono ?_
  rintro e w8 ⟨rfl, B8⟩
  clear s7 t7 hs7 ht7 hcs hct
  go_wp2_with fail
  go_ret
  exact ⟨rfl, B8⟩
theorem openV_form (s : ByteArray) : ∃ (x y z : Int) (d : ByteArray), openV s = .agg #[.int .i64 x, .int .i64 y, .int .u64 z, .string d] := by
  unfold openV
  split
  · exact ⟨_, _, _, _, rfl⟩
  · exact ⟨_, _, _, _, rfl⟩
namespace sealOpens
theorem walk (a0 : ByteArray) (w : World) (_b0 : a0.size ≤ 140737488351232) :
    Calls Try.prog 4 #[.string a0] w fun e w' => e = .returned (.bool true) ∧ Below w.heap.size w w' := by
  have hO := open_any a0
  have hR := ropen_any a0
  have hS := sealSum_any a0
  have hT := rsealSum_any a0
  obtain ⟨x, y, z, d, hV⟩ := openV_form a0
  rw [hV] at hO hR
  generalize openE a0 = ee at hO hR
  generalize sumAt (bytesOf a0) = su at hS hT
  clear hV
  have hle := Nat.le_refl w.heap.size
  go_enter Try.func4, Try.ntmps4
  go_wp2_with fail
  refine (awakeS_c _ (Nat.le_refl _) (Below.refl w.heap.size w)).mono ?_
  rintro e w1 ⟨rfl, B1⟩
  go_wp2_with fail
  refine (carry hle B1 (hO _)).mono ?_
  rintro e w2 ⟨rfl, B2⟩
  clear B1
  go_wp2_with fail
  have s2 : Blk (w2.alloc (.cells #[.int .i64 x, .int .i64 y, .int .u64 z, .string d] 24)) w2.heap.size 24 #[.int .i64 x, .int .i64 y, .int .u64 z, .string d] := Blk.new _ _ _
  have B3 := B2.alloc (Nat.le_trans hle B2.size) (.cells #[.int .i64 x, .int .i64 y, .int .u64 z, .string d] 24)
  refine (hR _).mono ?_
  rintro e w4 ⟨rfl, h4⟩
  have s4 := s2.below h4 s2.lt
  have B4 := below_chain B3 h4 hle
  clear s2 B2 B3 h4
  have s5 := s4.alloc (.cells #[.int .i64 x, .int .i64 y, .int .u64 z, .string d] 24)
  have t5 : Blk (w4.alloc (.cells #[.int .i64 x, .int .i64 y, .int .u64 z, .string d] 24)) w4.heap.size 24 #[.int .i64 x, .int .i64 y, .int .u64 z, .string d] := Blk.new _ _ _
  have B5 := B4.alloc (Nat.le_trans hle B4.size) (.cells #[.int .i64 x, .int .i64 y, .int .u64 z, .string d] 24)
  have hs5 := s5.cell
  have ht5 := t5.cell
  have hfs := s5.frozen
  go_wp2_with fail
  refine (carry hle B5 (hS _)).mono ?_
  rintro e w6 ⟨rfl, B6⟩
  clear s4 s5 t5 hs5 ht5 hfs B5 B4
  go_wp2_with fail
  refine (hT _).mono ?_
  rintro e w7 ⟨rfl, h7⟩
  subst h7
  go_wp2_with fail
  go_ret
  exact ⟨rfl, B6⟩
end sealOpens
namespace sealCloses
set_option maxHeartbeats 4000000 in
theorem walk (a0 a1 a2 : Int) (a3 : ByteArray) (a4 : Bool) (w : World) (_w0 : (Lit.int .i64 a0).wf = true) (_w1 : (Lit.int .i64 a1).wf = true) (w2 : (Lit.int .u64 a2).wf = true) (b3 : a3.size ≤ 140737488351232) :
    Calls Try.prog 3 #[.agg #[.int .i64 a0, .int .i64 a1, .int .u64 a2, .string a3], .bool a4] w fun e w' => e = .returned (.bool true) ∧ Below w.heap.size w w' := by
  have hu := u64_of_wf w2
  have hle := Nat.le_refl w.heap.size
  clear w2
  have hF := full_any a3
  cases a4
  · go_enter Try.func3, Try.ntmps3
    go_wp2_with fail
    have s0 : Blk (w.alloc (.cells #[.int .i64 a0, .int .i64 a1, .int .u64 a2, .string a3] 24)) w.heap.size 24 #[.int .i64 a0, .int .i64 a1, .int .u64 a2, .string a3] := Blk.new _ _ _
    have B0 := (Below.refl w.heap.size w).alloc hle (.cells #[.int .i64 a0, .int .i64 a1, .int .u64 a2, .string a3] 24)
    refine (awakeS_c _ (Nat.le_refl _) (Below.refl _ _)).mono ?_
    rintro e w3 ⟨rfl, h1⟩
    have s3 := s0.below h1 s0.lt
    have B3 := below_chain B0 h1 hle
    have c3 := s3.cell
    clear s0 B0 h1
    go_wp2_with fail
    refine (close_any a0 a1 a2 a3 _ hu).mono ?_
    rintro e w4 ⟨rfl, h4⟩
    have s4 := s3.below h4 s3.lt
    have B4 := below_chain B3 h4 hle
    have c4 := s4.cell
    clear s3 B3 h4 c3
    go_wp2_with fail
    refine (rclose_any a0 a1 a2 a3 _ hu).mono ?_
    rintro e w5 ⟨rfl, h5⟩
    have s5 := s4.below h5 s4.lt
    have B5 := below_chain B4 h5 hle
    have c5 := s5.cell
    clear s4 B4 h5 c4
    generalize closeS a0 a1 a2.toNat a3 = a
    generalize closeE a0 a1 a3 = ee
    have hS := sealSum_any a
    have hT := rsealSum_any a
    have hS2 := sealSum_any a3
    have hT2 := rsealSum_any a3
    generalize sumAt (bytesOf a) = su at hS hT
    generalize sumAt (bytesOf (a3)) = su2 at hS2 hT2
    go_wp2_with fail
    refine wp_region_plan (fun wz => Blk wz w.heap.size 24 #[.int .i64 a0, .int .i64 a1, .int .u64 a2, .string (a3)] ∧ Below w.heap.size w wz) [(0, true), (1, true), (2, true), (3, true), (4, true), (5, true), (6, true), (7, true), (8, true), (9, true), (11, true), (10, false), (12, false), (13, true), (14, true), (15, true), (16, true), (17, true), (19, true), (20, true), (18, false), (21, false), (22, true), (23, true), (24, true)] (by kernel_rfl) (by kernel_rfl) (fun _ _ _ _ _ h => h) ⟨s5, B5.drew⟩ ?_
    simp only [planOps, List.map_cons, List.map_nil, List.getD_cons_zero, List.getD_cons_succ]
    replace s5 : Blk w5.drew _ _ _ := s5
    replace B5 := B5.drew
    clear c5
    generalize w5.drew = v5 at s5 B5 ⊢
    repeat (refine wpPlan_pure (fun K hK => ?_); first | (refine Or.inl ⟨rfl, ?_, fun wy hS => ?_, ?_⟩; rotate_left; (focus (have hc := hS.1.cell; go_simp; exact rfl)); go_simp; refine hK _ ?_; clear hK K) | (refine Or.inr ⟨rfl, ?_⟩; go_simp; refine hK _ ?_; clear hK K))
    refine wpPlan_lone (fun K hK => ?_); refine ⟨rfl, ?_⟩; go_simp
    refine (hS _).mono ?_
    rintro e v6 ⟨rfl, h6⟩
    have s6 := s5.below h6 s5.lt
    have B6 := below_chain B5 h6 hle
    go_simp
    refine hK _ _ ⟨s6, B6⟩ ?_
    clear hK K
    refine wpPlan_lone (fun K hK => ?_); refine ⟨rfl, ?_⟩; go_simp
    refine (hT _).mono ?_
    rintro e v7 ⟨rfl, h7⟩
    subst h7
    go_simp
    refine hK _ _ ⟨s6, B6⟩ ?_
    clear hK K
    repeat (refine wpPlan_pure (fun K hK => ?_); first | (refine Or.inl ⟨rfl, ?_, fun wy hS => ?_, ?_⟩; rotate_left; (focus (have hc := hS.1.cell; go_simp; exact rfl)); go_simp; refine hK _ ?_; clear hK K) | (refine Or.inr ⟨rfl, ?_⟩; go_simp; refine hK _ ?_; clear hK K))
    refine wpPlan_lone (fun K hK => ?_); refine ⟨rfl, ?_⟩; go_simp
    refine (hS2 _).mono ?_
    rintro e v8 ⟨rfl, h8⟩
    have s8 := s6.below h8 s6.lt
    have B8 := below_chain B6 h8 hle
    go_simp
    refine hK _ _ ⟨s8, B8⟩ ?_
    clear hK K
    refine wpPlan_lone (fun K hK => ?_); refine ⟨rfl, ?_⟩; go_simp
    refine (hT2 _).mono ?_
    rintro e v9 ⟨rfl, h9⟩
    subst h9
    go_simp
    refine hK _ _ ⟨s8, B8⟩ ?_
    clear hK K
    repeat (refine wpPlan_pure (fun K hK => ?_); first | (refine Or.inl ⟨rfl, ?_, fun wy hS => ?_, ?_⟩; rotate_left; (focus (have hc := hS.1.cell; go_simp; exact rfl)); go_simp; refine hK _ ?_; clear hK K) | (refine Or.inr ⟨rfl, ?_⟩; go_simp; refine hK _ ?_; clear hK K))
    refine wpPlan_nil ?_
    go_wp2_with fail
    go_ret
    exact ⟨rfl, B8⟩
  · go_enter Try.func3, Try.ntmps3
    go_wp2_with fail
    have s0 : Blk (w.alloc (.cells #[.int .i64 a0, .int .i64 a1, .int .u64 a2, .string a3] 24)) w.heap.size 24 #[.int .i64 a0, .int .i64 a1, .int .u64 a2, .string a3] := Blk.new _ _ _
    have B0 := (Below.refl w.heap.size w).alloc hle (.cells #[.int .i64 a0, .int .i64 a1, .int .u64 a2, .string a3] 24)
    refine (awakeS_c _ (Nat.le_refl _) (Below.refl _ _)).mono ?_
    rintro e w1 ⟨rfl, h1⟩
    have s1 := s0.below h1 s0.lt
    have B1 := below_chain B0 h1 hle
    have c1 := s1.cell
    clear s0 B0 h1
    go_wp2_with fail
    refine (hF _ (by omega)).mono ?_
    rintro e w2 ⟨rfl, h2⟩
    have s2 := s1.below h2 s1.lt
    have B2 := below_chain B1 h2 hle
    clear s1 B1 h2 c1
    have c2 := s2.cell
    have f2 := s2.frozen
    have hb2 : w2.heap[w.heap.size]? = _ := s2
    generalize fullS a3 = d
    have B3' := B2.setCell (p := ⟨w.heap.size, 3, none⟩) (Nat.le_refl _) (.string d)
    have s3' : Blk _ _ _ #[.int .i64 a0, .int .i64 a1, .int .u64 a2, .string d] := s2.set 3 (.string d)
    have c3' := s3'.cell
    go_wp2_with fail
    clear c2 f2 hb2 s2 B2 c3'
    generalize w2.setCell ⟨w.heap.size, 3, none⟩ (.string d) = w3 at s3' B3' ⊢
    have s3 := s3'
    have B3 := B3'
    have c3 := s3.cell
    clear s3' B3'
    refine (close_any a0 a1 a2 d _ hu).mono ?_
    rintro e w4 ⟨rfl, h4⟩
    have s4 := s3.below h4 s3.lt
    have B4 := below_chain B3 h4 hle
    have c4 := s4.cell
    clear s3 B3 h4 c3
    go_wp2_with fail
    refine (rclose_any a0 a1 a2 d _ hu).mono ?_
    rintro e w5 ⟨rfl, h5⟩
    have s5 := s4.below h5 s4.lt
    have B5 := below_chain B4 h5 hle
    have c5 := s5.cell
    clear s4 B4 h5 c4
    generalize closeS a0 a1 a2.toNat d = a
    generalize closeE a0 a1 d = ee
    have hS := sealSum_any a
    have hT := rsealSum_any a
    have hS2 := sealSum_any d
    have hT2 := rsealSum_any d
    generalize sumAt (bytesOf a) = su at hS hT
    generalize sumAt (bytesOf (d)) = su2 at hS2 hT2
    go_wp2_with fail
    refine wp_region_plan (fun wz => Blk wz w.heap.size 24 #[.int .i64 a0, .int .i64 a1, .int .u64 a2, .string (d)] ∧ Below w.heap.size w wz) [(0, true), (1, true), (2, true), (3, true), (4, true), (5, true), (6, true), (7, true), (8, true), (9, true), (11, true), (10, false), (12, false), (13, true), (14, true), (15, true), (16, true), (17, true), (19, true), (20, true), (18, false), (21, false), (22, true), (23, true), (24, true)] (by kernel_rfl) (by kernel_rfl) (fun _ _ _ _ _ h => h) ⟨s5, B5.drew⟩ ?_
    simp only [planOps, List.map_cons, List.map_nil, List.getD_cons_zero, List.getD_cons_succ]
    replace s5 : Blk w5.drew _ _ _ := s5
    replace B5 := B5.drew
    clear c5
    generalize w5.drew = v5 at s5 B5 ⊢
    repeat (refine wpPlan_pure (fun K hK => ?_); first | (refine Or.inl ⟨rfl, ?_, fun wy hS => ?_, ?_⟩; rotate_left; (focus (have hc := hS.1.cell; go_simp; exact rfl)); go_simp; refine hK _ ?_; clear hK K) | (refine Or.inr ⟨rfl, ?_⟩; go_simp; refine hK _ ?_; clear hK K))
    refine wpPlan_lone (fun K hK => ?_); refine ⟨rfl, ?_⟩; go_simp
    refine (hS _).mono ?_
    rintro e v6 ⟨rfl, h6⟩
    have s6 := s5.below h6 s5.lt
    have B6 := below_chain B5 h6 hle
    go_simp
    refine hK _ _ ⟨s6, B6⟩ ?_
    clear hK K
    refine wpPlan_lone (fun K hK => ?_); refine ⟨rfl, ?_⟩; go_simp
    refine (hT _).mono ?_
    rintro e v7 ⟨rfl, h7⟩
    subst h7
    go_simp
    refine hK _ _ ⟨s6, B6⟩ ?_
    clear hK K
    repeat (refine wpPlan_pure (fun K hK => ?_); first | (refine Or.inl ⟨rfl, ?_, fun wy hS => ?_, ?_⟩; rotate_left; (focus (have hc := hS.1.cell; go_simp; exact rfl)); go_simp; refine hK _ ?_; clear hK K) | (refine Or.inr ⟨rfl, ?_⟩; go_simp; refine hK _ ?_; clear hK K))
    refine wpPlan_lone (fun K hK => ?_); refine ⟨rfl, ?_⟩; go_simp
    refine (hS2 _).mono ?_
    rintro e v8 ⟨rfl, h8⟩
    have s8 := s6.below h8 s6.lt
    have B8 := below_chain B6 h8 hle
    go_simp
    refine hK _ _ ⟨s8, B8⟩ ?_
    clear hK K
    refine wpPlan_lone (fun K hK => ?_); refine ⟨rfl, ?_⟩; go_simp
    refine (hT2 _).mono ?_
    rintro e v9 ⟨rfl, h9⟩
    subst h9
    go_simp
    refine hK _ _ ⟨s8, B8⟩ ?_
    clear hK K
    repeat (refine wpPlan_pure (fun K hK => ?_); first | (refine Or.inl ⟨rfl, ?_, fun wy hS => ?_, ?_⟩; rotate_left; (focus (have hc := hS.1.cell; go_simp; exact rfl)); go_simp; refine hK _ ?_; clear hK K) | (refine Or.inr ⟨rfl, ?_⟩; go_simp; refine hK _ ?_; clear hK K))
    refine wpPlan_nil ?_
    go_wp2_with fail
    go_ret
    exact ⟨rfl, B8⟩
end sealCloses
end Go.Proofs.Ythniifphilnokaa
