/- The walk of the document's Open of the layer seal. -/
import Derived.Test.YtelolcagncgfpaaGreatSealWalk
namespace Go.Proofs.YtelolcagncgfpaaGreat
open Go.RowKit
set_option maxRecDepth 100000 in
set_option maxHeartbeats 4000000 in
theorem ropen_any (s : ByteArray) (w : World) :
 Calls Tryz.prog 39 #[.string s] w fun e w' => e = .returned (.tuple #[openV s, .int .i64 (openE s)]) ∧ Below w.heap.size w w' := by
 have hl := bytesOf_length s
 have hB := Below.refl w.heap.size w
 by_cases h : s.size = 256
 · have q1 : numOf (bytesOf (s.extract 232 236)) = kindAt (bytesOf s) := by rw [bytesOf_extract, kindAt, List.drop_take]
   have q2 : numOf (bytesOf (s.extract 236 240)) = numberAt (bytesOf s) := by rw [bytesOf_extract, numberAt, List.drop_take]
   have q3 : numOf (bytesOf (s.extract 240 248)) = saltAt (bytesOf s) := by rw [bytesOf_extract, saltAt, List.drop_take]
   have q4 : bytesOf (s.extract 0 248) = (bytesOf s).take 248 := by rw [bytesOf_extract, List.drop_zero]
   obtain ⟨m, hm⟩ : ∃ m, mixSum 1 (bytesOf (s.extract 0 248)) = m := ⟨_, rfl⟩
   have hx : sumAt (bytesOf s) = numOf ((bytesOf s).drop 248) := by unfold sumAt; rw [if_pos (by omega)]
   have hi : isSeal (bytesOf s) = true ↔ sumAt (bytesOf s) = m := by
    rw [isSeal_iff, hx, ← hm, q4]
    exact ⟨fun hh => hh.2, fun hh => ⟨by omega, hh⟩⟩
   have n1 := kindAt_lt (bytesOf s)
   have n2 := numberAt_lt (bytesOf s)
   have hs1 := rsealSum_any s
   unfold openV openE
   rw [if_pos h]
   generalize kindAt (bytesOf s) = k at *
   generalize numberAt (bytesOf s) = n at *
   generalize saltAt (bytesOf s) = salt at *
   generalize sumAt (bytesOf s) = x at *
   have HM := Lib.hid hm
   have Q1 := Lib.hid q1
   have Q2 := Lib.hid q2
   have Q3 := Lib.hid q3
   clear hm q1 q2 q3 q4 hx hl
   have c1 : ∀ i j, i ≤ j → j ≤ 256 → (s.extract i j).size = j - i := fun i j hij hj => by rw [ByteArray.size_extract]; omega
   by_cases hg : isSeal (bytesOf s) = true
   · rw [if_pos hg, if_pos hg]
     obtain rfl := hi.1 hg
     have wk : IntKind.i64.wrap (k : Int) = k := by unfold IntKind.wrap; simp [IntKind.bits, IntKind.signed]; omega
     have wn : IntKind.i64.wrap (n : Int) = n := by unfold IntKind.wrap; simp [IntKind.bits, IntKind.signed]; omega
     clear hi hg
     go_enter Tryz.func39, Tryz.ntmps39
     go_wp2_with fail
     have b0 : Blk (w.alloc (.cells #[.int .i64 0, .int .i64 0, .int .u64 0, .string ⟨#[]⟩] 26)).drew w.heap.size 26 #[.int .i64 0, .int .i64 0, .int .u64 0, .string ⟨#[]⟩] := Blk.new w _ _
     have B0 := ((Below.refl w.heap.size w).alloc (Nat.le_refl _) (.cells #[.int .i64 0, .int .i64 0, .int .u64 0, .string ⟨#[]⟩] 26)).drew
     refine wp_region_plan (fun wz => Blk wz w.heap.size 26 #[.int .i64 0, .int .i64 0, .int .u64 0, .string ⟨#[]⟩] ∧ Below w.heap.size w wz) [(0, true), (2, true), (3, true), (1, false), (4, false), (5, true)] (by kernel_rfl) (by kernel_rfl) (fun _ _ _ _ _ h => h) ⟨b0, B0⟩ ?_
     simp only [planOps, List.map_cons, List.map_nil, List.getD_cons_zero, List.getD_cons_succ]
     generalize (w.alloc (.cells #[.int .i64 0, .int .i64 0, .int .u64 0, .string ⟨#[]⟩] 26)).drew = v0 at b0 B0 ⊢
     repeat (refine wpPlan_pure (fun K hK => ?_); first | (refine Or.inl ⟨rfl, ?_, fun wy hS => ?_, ?_⟩; rotate_left; (focus (have hc := hS.1.cell; go_simp; exact rfl)); go_simp; refine hK _ ?_; clear hK K) | (refine Or.inr ⟨rfl, ?_⟩; go_simp; refine hK _ ?_; clear hK K))
     refine wpPlan_lone (fun K hK => ?_); refine ⟨rfl, ?_⟩; go_simp
     refine (hs1 _).mono ?_
     rintro e v1 ⟨rfl, h1⟩
     subst h1
     go_simp
     refine hK _ _ ⟨b0, B0⟩ ?_
     clear hK K
     refine wpPlan_lone (fun K hK => ?_); refine ⟨rfl, ?_⟩; go_simp
     refine (rsum_at _ _ _ HM.out (by rw [c1 _ _ (by decide) (by decide)]; decide)).mono ?_
     rintro e v2 ⟨rfl, h2⟩
     subst h2
     go_simp
     refine hK _ _ ⟨b0, B0⟩ ?_
     clear hK K
     repeat (refine wpPlan_pure (fun K hK => ?_); first | (refine Or.inl ⟨rfl, ?_, fun wy hS => ?_, ?_⟩; rotate_left; (focus (have hc := hS.1.cell; go_simp; exact rfl)); go_simp; refine hK _ ?_; clear hK K) | (refine Or.inr ⟨rfl, ?_⟩; go_simp; refine hK _ ?_; clear hK K))
     refine wpPlan_nil ?_
     have hb2 : v0.heap[w.heap.size]? = _ := b0
     have hc := b0.cell
     have hf := b0.frozen
     have B0' := Lib.hid B0
     have b0' := Lib.hid b0
     clear b0 B0
     go_wp2_with fail
     refine (rnumber_any _ _ _ (by rw [c1 _ _ (by decide) (by decide)]; decide) (by rw [c1 _ _ (by decide) (by decide)]; decide) Q1.out).mono ?_
     rintro e v3 ⟨rfl, h3⟩
     subst h3
     go_wp2_with fail
     refine (rnumber_any _ _ _ (by rw [c1 _ _ (by decide) (by decide)]; decide) (by rw [c1 _ _ (by decide) (by decide)]; decide) Q2.out).mono ?_
     rintro e v3 ⟨rfl, h3⟩
     subst h3
     go_wp2_with fail
     refine (rnumber_any _ _ _ (by rw [c1 _ _ (by decide) (by decide)]; decide) (by rw [c1 _ _ (by decide) (by decide)]; decide) Q3.out).mono ?_
     rintro e v3 ⟨rfl, h3⟩
     subst h3
     go_wp2_with fail
     clear hb2 hc hf
     have b0 := b0'.out
     have B0 := B0'.out
     have B6 := (((B0.setCell (p := ⟨w.heap.size, 0, none⟩) (Nat.le_refl _) (.int .i64 k)).setCell (p := ⟨w.heap.size, 1, none⟩) (Nat.le_refl _) (.int .i64 n)).setCell (p := ⟨w.heap.size, 2, none⟩) (Nat.le_refl _) (.int .u64 salt)).setCell (p := ⟨w.heap.size, 3, none⟩) (Nat.le_refl _) (.string (s.extract 0 232))
     have b6 : Blk _ _ _ #[.int .i64 k, .int .i64 n, .int .u64 salt, .string (s.extract 0 232)] := (((b0.set 0 (.int .i64 k)).set 1 (.int .i64 n)).set 2 (.int .u64 salt)).set 3 (.string (s.extract 0 232))
     generalize (((v0.setCell ⟨w.heap.size, 0, none⟩ (.int .i64 k)).setCell ⟨w.heap.size, 1, none⟩ (.int .i64 n)).setCell ⟨w.heap.size, 2, none⟩ (.int .u64 salt)).setCell ⟨w.heap.size, 3, none⟩ (.string (s.extract 0 232)) = v6 at b6 B6 ⊢
     have c6 := b6.cell
     refine bodyPost_ret (v := .tuple #[.agg #[.int .i64 k, .int .i64 n, .int .u64 salt, .string (s.extract 0 232)], .int .i64 0]) (by simp [results, Tryz.results39, go_sem, c6]) rfl ⟨rfl, B6⟩
   · rw [if_neg hg, if_neg hg]
     have hne : ((x : Int) == m) = false := by
      simp only [beq_eq_false_iff_ne, ne_eq, Int.natCast_inj]
      exact fun hh => hg (hi.2 hh)
     have hne' : (x == m) = false := by simpa using fun hh => hg (hi.2 hh)
     clear hi hg
     go_enter Tryz.func39, Tryz.ntmps39
     go_wp2_with fail
     have b0 : Blk (w.alloc (.cells #[.int .i64 0, .int .i64 0, .int .u64 0, .string ⟨#[]⟩] 26)).drew w.heap.size 26 #[.int .i64 0, .int .i64 0, .int .u64 0, .string ⟨#[]⟩] := Blk.new w _ _
     have B0 := ((Below.refl w.heap.size w).alloc (Nat.le_refl _) (.cells #[.int .i64 0, .int .i64 0, .int .u64 0, .string ⟨#[]⟩] 26)).drew
     refine wp_region_plan (fun wz => Blk wz w.heap.size 26 #[.int .i64 0, .int .i64 0, .int .u64 0, .string ⟨#[]⟩] ∧ Below w.heap.size w wz) [(0, true), (2, true), (3, true), (1, false), (4, false), (5, true)] (by kernel_rfl) (by kernel_rfl) (fun _ _ _ _ _ h => h) ⟨b0, B0⟩ ?_
     simp only [planOps, List.map_cons, List.map_nil, List.getD_cons_zero, List.getD_cons_succ]
     generalize (w.alloc (.cells #[.int .i64 0, .int .i64 0, .int .u64 0, .string ⟨#[]⟩] 26)).drew = v0 at b0 B0 ⊢
     repeat (refine wpPlan_pure (fun K hK => ?_); first | (refine Or.inl ⟨rfl, ?_, fun wy hS => ?_, ?_⟩; rotate_left; (focus (have hc := hS.1.cell; go_simp; exact rfl)); go_simp; refine hK _ ?_; clear hK K) | (refine Or.inr ⟨rfl, ?_⟩; go_simp; refine hK _ ?_; clear hK K))
     refine wpPlan_lone (fun K hK => ?_); refine ⟨rfl, ?_⟩; go_simp
     refine (hs1 _).mono ?_
     rintro e v1 ⟨rfl, h1⟩
     subst h1
     go_simp
     refine hK _ _ ⟨b0, B0⟩ ?_
     clear hK K
     refine wpPlan_lone (fun K hK => ?_); refine ⟨rfl, ?_⟩; go_simp
     refine (rsum_at _ _ _ HM.out (by rw [c1 _ _ (by decide) (by decide)]; decide)).mono ?_
     rintro e v2 ⟨rfl, h2⟩
     subst h2
     go_simp
     refine hK _ _ ⟨b0, B0⟩ ?_
     clear hK K
     repeat (refine wpPlan_pure (fun K hK => ?_); first | (refine Or.inl ⟨rfl, ?_, fun wy hS => ?_, ?_⟩; rotate_left; (focus (have hc := hS.1.cell; go_simp; exact rfl)); go_simp; refine hK _ ?_; clear hK K) | (refine Or.inr ⟨rfl, ?_⟩; go_simp; refine hK _ ?_; clear hK K))
     refine wpPlan_nil ?_
     have hb2 : v0.heap[w.heap.size]? = _ := b0
     have hc := b0.cell
     have hf := b0.frozen
     clear c1 hs1 HM Q1 Q2 Q3 n1 n2
     clear hB
     have B0' := Lib.hid B0
     clear B0
     go_wp2_with fail
     clear hc hf hb2
     have B0 := B0'.out
     have B6 := (((B0.setCell (p := ⟨w.heap.size, 0, none⟩) (Nat.le_refl _) (.int .i64 0)).setCell (p := ⟨w.heap.size, 1, none⟩) (Nat.le_refl _) (.int .i64 0)).setCell (p := ⟨w.heap.size, 2, none⟩) (Nat.le_refl _) (.int .u64 0)).setCell (p := ⟨w.heap.size, 3, none⟩) (Nat.le_refl _) (.string ⟨#[]⟩)
     have b6 : Blk _ _ _ #[.int .i64 0, .int .i64 0, .int .u64 0, .string ⟨#[]⟩] := (((b0.set 0 (.int .i64 0)).set 1 (.int .i64 0)).set 2 (.int .u64 0)).set 3 (.string ⟨#[]⟩)
     generalize (((v0.setCell ⟨w.heap.size, 0, none⟩ (.int .i64 0)).setCell ⟨w.heap.size, 1, none⟩ (.int .i64 0)).setCell ⟨w.heap.size, 2, none⟩ (.int .u64 0)).setCell ⟨w.heap.size, 3, none⟩ (.string ⟨#[]⟩) = v6 at b6 B6 ⊢
     have c6 := b6.cell
     refine bodyPost_ret (v := .tuple #[.agg #[.int .i64 0, .int .i64 0, .int .u64 0, .string ⟨#[]⟩], .int .i64 20]) (by simp [results, Tryz.results39, go_sem, c6]) rfl ⟨rfl, B6⟩
 · have hn : ¬ isSeal (bytesOf s) = true := fun hh => h (by have := (isSeal_iff.1 hh).1; omega)
   rw [openV, openE, if_neg hn, if_neg hn, if_neg h]
   have h' : (s.size == 256) = false := by simpa using h
   have h2 : ((s.size : Int) == 256) = false := by simp; omega
   go_enter Tryz.func39, Tryz.ntmps39
   go_wp2_with fail
   refine bodyPost_ret (v := .tuple #[.agg #[.int .i64 0, .int .i64 0, .int .u64 0, .string ⟨#[]⟩], .int .i64 1]) (by simp [results, Tryz.results39, go_sem]) rfl ⟨rfl, hB.alloc (Nat.le_refl _) _⟩
end Go.Proofs.YtelolcagncgfpaaGreat
