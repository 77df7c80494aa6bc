/- The disk: how many sectors all files have; a new sector is put into a file; a new disk. -/
import Derived.Test.YtelolcagncgfpaaGreatDiskOps
import Derived.LoopTactic
import Derived.LoopN
import Derived.Laws.IdiomRangeMap
import Derived.Maps.RangeRun
namespace Go.Proofs.YtelolcagncgfpaaGreat
open Go.RowKit
set_option linter.unusedSimpArgs false
set_option linter.unusedVariables false
def flen (w : World) : Value → Int
 | .pointer (some a) => match w.cell? a with | some (.slice _ n _) => (n : Nat) | _ => 0
 | _ => 0
def lens (w : World) (es : List MapEntry) : List MapEntry := es.map fun e => { e with val := .int .i64 (flen w e.val) }
theorem lens_sum (w : World) (es : List MapEntry) : ((lens w es).map fun e => valOf e.val).sum = (es.map fun e => flen w e.val).sum := by
 unfold lens; rw [List.map_map]; rfl
theorem seen_le (w : World) (hn : ∀ v, 0 ≤ flen w v) (seen : Array Nat) : ∀ es : List MapEntry, 0 ≤ seenSum (lens w es) seen ∧ seenSum (lens w es) seen ≤ (es.map fun e => flen w e.val).sum
 | [] => ⟨Int.le_refl _, Int.le_refl _⟩
 | e :: es => by
  have ih := seen_le w hn seen es
  have h0 := hn e.val
  show 0 ≤ (if seen.contains e.born then flen w e.val else 0) + seenSum (lens w es) seen ∧ (if seen.contains e.born then flen w e.val else 0) + seenSum (lens w es) seen ≤ flen w e.val + (es.map fun e => flen w e.val).sum
  split <;> omega
theorem flen_pos (w : World) (v : Value) : 0 ≤ flen w v := by unfold flen; split <;> (try split) <;> omega
def itLeft (es : Array MapEntry) (r : Nat) (w : World) : Nat := match w.heap[r]? with | some (.mapIter _ _ seen _) => (leftOf es seen).size | _ => 0
set_option maxRecDepth 1000000 in
theorem total_w (w : World) (g bm : Nat) (k : Dk) (es : Array MapEntry) (clock : Nat) (hd : Blk w g 58 (dkv bm k).toArray) (hb : w.heap[bm]? = some (.map es clock)) (hst : MapKept.Stamped es clock)
 (hv : ∀ x ∈ es.toList, ∃ p a n c, x.val = cp p ∧ w.cell? ⟨p, 0, none⟩ = some (.slice a n c)) (hs : (es.toList.map fun e => flen w e.val).sum ≤ 4611686018427387904) :
 Calls Tryz.prog 95 #[.pointer (some ⟨g, 0, none⟩)] w fun e w' => e = .returned (.int .i64 (es.toList.map fun e => flen w e.val).sum) ∧ Below w.heap.size w w' := by
 have hrg := run_range_map (P := Tryz.prog) w 56 9 65 bm es clock Tryz.underlying56 hb
 have hc0 : w.cell? ⟨g, 0, none⟩ = some (.map (some bm)) := by rw [hd.cell]; rfl
 go_enter Tryz.func95, Tryz.ntmps95
 go_wp2
 go_loopw [3] (fun s w' => ∃ seen : Array Nat, w'.heap[w.heap.size]? = some (.mapIter (some bm) clock seen clock) ∧ Below w.heap.size w w' ∧ s = .int .i64 (seenSum (lens w es.toList) seen)) (fun _ w' => itLeft es w.heap.size w')
 case atStart => exact ⟨#[], heap_alloc_new _ _, (Below.refl _ w).alloc (Nat.le_refl _) _, by rw [seenSum_none]⟩
 case round =>
  obtain ⟨seen, hit, hbel, rfl⟩ := hrel
  have hbm : bm < w.heap.size := lt_of_block hb
  have hb1 : wr.heap[bm]? = some (.map es clock) := by rw [hbel.block bm hbm]; exact hb
  rcases run_next_at (P := Tryz.prog) wr 0 w.heap.size bm clock clock seen es clock hit hb1 hst.1 (Nat.le_refl _) with ⟨h0, hrun⟩ | ⟨e, he, w2, hal2, hrun⟩
  · have hnx : ∀ ty, (Instr.next (.pointer (some ⟨w.heap.size, 0, none⟩)) false ty).run Tryz.prog wr = _ := fun _ => hrun
    have hall : seenSum (lens w es.toList) seen = (es.toList.map fun e => flen w e.val).sum := by
     rw [← lens_sum]
     refine seenSum_full seen _ fun x hx => ?_
     obtain ⟨y, hy, rfl⟩ := List.mem_map.1 hx
     show seen.contains y.born = true
     cases hcn : seen.contains y.born with
     | true => rfl
     | false =>
      have : y ∈ (leftOf es seen).toList := by unfold leftOf; rw [Array.toList_filter, List.mem_filter]; exact ⟨hy, by rw [hcn]; rfl⟩
      have hl : (leftOf es seen).toList = [] := List.eq_nil_of_length_eq_zero (by rw [Array.length_toList]; exact h0)
      rw [hl] at this
      cases this
    rw [hall]
    go_wp2
    go_ret
    exact ⟨rfl, hbel⟩
  · obtain ⟨p, a, n, c, hval, hcell⟩ := hv e (mem_left he).1
    rw [hval] at hrun
    have hnx : ∀ ty, (Instr.next (.pointer (some ⟨w.heap.size, 0, none⟩)) false ty).run Tryz.prog wr = _ := fun _ => hrun
    have hb2 : Below w.heap.size w w2 := by
     rcases hal2 with rfl | rfl
     · exact hbel
     · exact hbel.drew
    have hsz : w.heap.size < w2.heap.size := by
     have := lt_of_block hit
     rcases hal2 with rfl | rfl <;> exact this
    generalize hw3 : Go.ChangeMaps.setBlock w2 w.heap.size (.mapIter (some bm) clock (seen.push e.born) clock) = w3 at hrun hnx
    have hit3 : w3.heap[w.heap.size]? = some (.mapIter (some bm) clock (seen.push e.born) clock) := by
     subst hw3
     show (w2.heap.setIfInBounds _ _)[_]? = _
     rw [Array.getElem?_setIfInBounds_self_of_lt hsz]
    have hbel3 : Below w.heap.size w w3 := by
     subst hw3
     refine ⟨hb2.os, hb2.tape, hb2.output, ?_, fun q hq => ?_⟩
     · show _ ≤ (w2.heap.setIfInBounds _ _).size
       rw [Array.size_setIfInBounds]; exact hb2.size
     · show (w2.heap.setIfInBounds _ _)[_]? = _
       rw [Array.getElem?_setIfInBounds_ne (by omega)]
       exact hb2.block q hq
    have hb3 : w3.heap[bm]? = some (.map es clock) := by rw [hbel3.block bm hbm]; exact hb
    have hen := run_entry_at (P := Tryz.prog) w3 w.heap.size bm clock seen es clock e hit3 hb3 (mem_left he).1 hst.2.1
    rw [hval] at hen
    have hlt : p < w.heap.size := (cell_lives hcell).2
    have hcell2 : w3.cell? ⟨p, 0, none⟩ = some (.slice a n c) := by
     rw [World.cell?_of_block (w := w) (a := ⟨p, 0, none⟩) (hbel3.block p hlt)]
     exact hcell
    have hfl : flen w e.val = (n : Nat) := by rw [hval]; unfold flen; simp only [hcell]
    have hpush := seenSum_push seen { e with val := .int .i64 (flen w e.val) } (mem_left he).2 (lens w es.toList) (by unfold lens; rw [List.map_map]; exact hst.2.1) (by unfold lens; exact List.mem_map.2 ⟨e, (mem_left he).1, rfl⟩)
    have hle := seen_le w (flen_pos w) seen es.toList
    have hle2 := seen_le w (flen_pos w) (seen.push e.born) es.toList
    have hpush : seenSum (lens w es.toList) (seen.push e.born) = seenSum (lens w es.toList) seen + (n : Nat) := by rw [hpush]; show _ + flen w e.val = _; rw [hfl]
    have hdn : itLeft es w.heap.size w3 < itLeft es w.heap.size wr := by
     unfold itLeft
     rw [hit3, hit]
     exact left_shrinks es seen e he
    have hS : ∃ S1, S1 = seenSum (lens w es.toList) seen := ⟨_, rfl⟩
    obtain ⟨S1, hS⟩ := hS
    rw [← hS] at hle hpush ⊢
    have hw : IntKind.i64.wrap (S1 + (n : Nat)) = S1 + (n : Nat) := (w64 (by omega) (by omega)).symm
    go_wp2
    refine ⟨⟨seen.push e.born, hit3, hbel3, ?_⟩, hdn⟩
    rw [hpush, ← hS]
theorem val_len {w : World} {r : Rl} {ty : TypeId} {l : List Value} (h : RowC w r ty l) {n : Nat} (hn : n = l.length) : ∃ a c, r.val n = .slice a n c := by
 rcases h with ⟨h0, _, rfl⟩ | ⟨h0, _⟩
 · subst hn
   exact ⟨_, _, by unfold Rl.val; rw [if_pos h0]; rfl⟩
 · exact ⟨_, _, by unfold Rl.val; rw [if_neg (by rw [h0]; exact zero_ne_nilS)]⟩
theorem file_len {w : World} {C : CM} {L : LF} {X : Fl} (H : FileAt w C L X) : ∃ a c, w.cell? ⟨L.g, 0, none⟩ = some (.slice a X.now.length c) := by
 obtain ⟨a, c, h⟩ := val_len H.r1 (n := L.pn.length) (by simp)
 refine ⟨a, c, ?_⟩
 rw [H.blk.cell, ← H.c1.len, ← h]
 rfl
theorem sum_files (w : World) : ∀ (E : EL) (g : ByteArray × LF × Fl → Nat), (∀ e ∈ E, flen w (cp (g e)) = (e.2.2.now.length : Nat)) → ((E.map fun e => cp (g e)).map (flen w)).sum = ((total (filesOf E) : Nat) : Int)
 | [], _, _ => rfl
 | e :: E, g, h => by
  have ih := sum_files w E g fun e he => h e (List.mem_cons_of_mem _ he)
  have h1 := h e List.mem_cons_self
  simp only [List.map_cons, List.sum_cons, h1, ih]
  unfold total
  simp
theorem total_at {P : Program} {w : World} {g bm : Nat} {k : Dk} {es : Array MapEntry} {clk : Nat} {E : EL} (h1 : Blk w g 58 (dkv bm k).toArray) (h2 : w.heap[bm]? = some (.map es clk)) (h3 : MapKept.Stamped es clk) (gs : ByteArray × LF × Fl → Nat)
 (h4 : es.toList.map (fun e => e.val) = E.map fun e => cp (gs e)) (h5 : ∀ e ∈ E, ∃ a c, w.cell? ⟨gs e, 0, none⟩ = some (.slice a e.2.2.now.length c)) (hs : total (filesOf E) ≤ 4611686018427387904) :
 Calls Tryz.prog 95 #[.pointer (some ⟨g, 0, none⟩)] w fun e w' => e = .returned (.int .i64 (total (filesOf E) : Nat)) ∧ Below w.heap.size w w' := by
 have hsum : (es.toList.map fun e => flen w e.val).sum = ((total (filesOf E) : Nat) : Int) := by
  have := sum_files w E gs fun e he => by
   obtain ⟨a, c, h⟩ := h5 e he
   unfold flen
   simp only [h]
  rw [← h4, List.map_map] at this
  exact this
 rw [← hsum]
 refine total_w w g bm k es clk h1 h2 h3 (fun x hx => ?_) (by rw [hsum]; omega)
 have : x.val ∈ es.toList.map (fun e => e.val) := List.mem_map_of_mem hx
 rw [h4] at this
 obtain ⟨e, he, hv⟩ := List.mem_map.1 this
 obtain ⟨a, c, h⟩ := h5 e he
 exact ⟨_, a, _, c, hv.symm, h⟩
theorem disk_cells {F : Nat → Prop} {B : Nat} {w0 : World} {m : BM} {h : HP} {n : Nat} {w : World} (H : HRel F B w0 m h n w) {i j : Nat} {k : Dk} {ks vs : List Value} (e0 : lkH h i = some (.own 58 (dkv j k))) (e1 : lkH h j = some (.mp ks vs)) :
 ∃ g M A clk, m i g 0 ∧ Blk w g 58 (dkv M k).toArray ∧ w.heap[M]? = some (.map A clk) ∧ MapKept.Stamped A clk ∧ LR (V1 m) vs (A.toList.map fun e => e.val) := by
 obtain ⟨g, hg, _, _, l, hl, hblk⟩ := H.place e0
 obtain ⟨M, s, hM, rfl, _, A, clk, ⟨h1, h2⟩, _, h3⟩ := H.dom j _ e1
 refine ⟨g, M, A, clk, hg, ?_, h1, h2, h3⟩
 have hl' : l = dkv M k := by
  match l, hl with
  | [v1, v2, v3, v4, v5, v6, v7, v8], ⟨q1, q2, q3, q4, q5, q6, q7, q8, _⟩ =>
   obtain ⟨b, hb, rfl⟩ : ∃ b, A0 m ⟨j, 0, none⟩ b ∧ v1 = .map (some b.block) := (V1.of0 rfl).1 q1
   obtain ⟨g', s', hm, _, rfl⟩ := hb.old
   obtain ⟨rfl, rfl⟩ := H.fn _ _ _ _ _ hm hM
   rw [(V1.flat rfl).1 q2, (V1.flat rfl).1 q3, (V1.flat rfl).1 q4, (V1.flat rfl).1 q5, (V1.flat rfl).1 q6, (V1.flat rfl).1 q7, (V1.flat rfl).1 q8]
 rw [← hl']
 exact hblk
theorem total_raw {h : HP} {n : Nat} {K : Value → HP → Nat → Prop} {k : Dk} {E : EL} {C : CM} (e0 : lkH h 0 = some (.own 58 (dkv 1 k))) (e1 : lkH h 1 = some (.mp (names E) (spots E))) (e2 : lkH h 2 = some (restI E C))
 (hs : total (filesOf E) ≤ 4611686018427387904) (hk : ∀ z : Int, z = (total (filesOf E) : Nat) → K (iv z) h n) : CallOb Tryz.prog 95 [ptr 0] h n K := by
 refine call_raw Tryz.call95 (v := iv (total (filesOf E) : Nat)) (fun F B w0 m w cs H hcs => ?_) (hk _ rfl)
 match cs, hcs with
 | [c], ⟨hc, _⟩ =>
  obtain ⟨g, M, A, clk, hg, h1, h2, h3, h4⟩ := disk_cells H e0 e1
  obtain ⟨b, hb, rfl⟩ := VR.ptr hc
  obtain ⟨g', s', hg', hs', rfl⟩ := hb.old
  obtain ⟨rfl, rfl⟩ := H.fn _ _ _ _ _ hg' hg
  obtain ⟨_, _, _, _, _, _, _, hR⟩ := H.dom 2 _ e2
  rw [sh_zero]
  refine (total_at (P := Tryz.prog) h1 h2 h3 (fun e => e.2.1.g) (spots_cps.1 h4) (fun e he => file_len (hR.files e he)) hs).mono ?_
  rintro e w' ⟨rfl, hb⟩
  exact ⟨_, rfl, VR.same rfl, hb⟩
theorem total_foc {h : HP} {n f a la ka lb b kb lc c kc : Nat} {sure : Bool} {K : Value → HP → Nat → Prop} {k : Dk} {E : EL} {C : CM} {q : Nat} {s : ByteArray} {L : LF} {X : Fl} (hq : E[q]? = some (s, L, X)) (e0 : lkH h 0 = some (.own 58 (dkv 1 k))) (e1 : lkH h 1 = some (.mp (names E) ((spots E).set q (ptr f))))
 (e2 : lkH h 2 = some (restI (E.eraseIdx q) C)) (e3 : lkH h f = some (.own 69 [mslice a la ka, mslice b lb kb, mslice c lc kc, .bool sure])) (hla : la = X.now.length)
 (hs : total (filesOf E) ≤ 4611686018427387904) (hk : ∀ z : Int, z = (total (filesOf E) : Nat) → K (iv z) h n) : CallOb Tryz.prog 95 [ptr 0] h n K := by
 refine call_raw Tryz.call95 (v := iv (total (filesOf E) : Nat)) (fun F B w0 m w cs H hcs => ?_) (hk _ rfl)
 match cs, hcs with
 | [x], ⟨hc, _⟩ =>
  obtain ⟨g, M, A, clk, hg, h1, h2, h3, h4⟩ := disk_cells H e0 e1
  obtain ⟨d, hd, rfl⟩ := VR.ptr hc
  obtain ⟨g', s', hg', hs', rfl⟩ := hd.old
  obtain ⟨rfl, rfl⟩ := H.fn _ _ _ _ _ hg' hg
  obtain ⟨_, _, _, _, _, _, _, hR⟩ := H.dom 2 _ e2
  obtain ⟨gf, hgf, _, _, l, hl, hbf⟩ := H.place e3
  have h5 := spots_set hq H.fn hgf h4
  -- with one of the places anew
  have hlt : q < E.length := by
   rcases Nat.lt_or_ge q E.length with y | y
   · exact y
   · rw [List.getElem?_eq_none y] at hq; cases hq
  have hcellf : ∃ u v, w.cell? ⟨gf, 0, none⟩ = some (.slice u X.now.length v) := by
   match l, hl with
   | v1 :: r, ⟨q1, _⟩ =>
    obtain ⟨_, _, _, hh⟩ : ∃ g s, m a g s ∧ _ := (V1.of0 rfl).1 q1
    rw [hbf.cell]
    subst hla
    rcases hh with ⟨_, h0, _, rfl⟩ | ⟨_, rfl⟩
    · exact ⟨weird _, 0, by rw [h0]; rfl⟩
    · exact ⟨_, _, rfl⟩
  rw [sh_zero]
  let E' : EL := E.set q (s, { L with g := gf }, X)
  have hE' : (E.map fun e => cp e.2.1.g).set q (cp gf) = E'.map fun e => cp e.2.1.g := by
   show _ = (E.set q _).map _
   rw [List.map_set]
  have hfs : filesOf E' = filesOf E := by
   apply List.ext_getElem?
   intro i
   show ((E.set q _).map _)[i]? = _
   rw [List.map_set, List.getElem?_set]
   split
   · rename_i hi
     subst hi
     rw [List.length_map, if_pos hlt, List.getElem?_map, hq]; rfl
   · rfl
  have := (total_at (P := Tryz.prog) (E := E') h1 h2 h3 (fun e => e.2.1.g) (h5.trans hE') (fun e he => ?_) (by rw [hfs]; exact hs))
  · rw [hfs] at this
    refine this.mono ?_
    rintro e w' ⟨rfl, hb⟩
    exact ⟨_, rfl, VR.same rfl, hb⟩
  · have hm : e ∈ (s, { L with g := gf }, X) :: E.eraseIdx q := (erase_set_perm _ hlt).mem_iff.2 he
    rcases List.mem_cons.1 hm with rfl | hm
    · exact hcellf
    · exact file_len (hR.files e hm)
end Go.Proofs.YtelolcagncgfpaaGreat
namespace Go.Proofs.YtelolcagncgfpaaGreat
open Go.RowKit
set_option linter.unusedSimpArgs false
set_option linter.unusedVariables false
theorem lst_re {F : Nat → Prop} {B : Nat} {m : BM} {w : World} {g s size k : Nat} {ty : TypeId} {cs cs' : List Value} (h : ItmOk F B m w g s (.lst ty size k cs)) (he : ∀ l, LR (V1 m) cs l → LR (V1 m) cs' l) : ItmOk F B m w g s (.lst ty size k cs') := by
 rcases h with ⟨a, b, rfl⟩ | ⟨a, f, b, l, cur, hl, c, d, e, x⟩
 · refine .inl ⟨a, b, ?_⟩
   have h := he [] trivial
   cases cs' with
   | nil => rfl
   | cons _ _ => exact h.elim
 · exact .inr ⟨a, f, b, l, cur, he l hl, c, d, e, x⟩
theorem ptr_cp {m : BM} {i g : Nat} (hm : m i g 0) : V1 m (ptr i) (cp g) := (V1.of0 rfl).2 ⟨_, A0.in hm zero_ne_nilS, by rw [sh_zero]⟩
theorem nv_set {m : BM} (hf : m.Fn) {i j g : Nat} (hm : m j g 0) {pn : List Nat} {l : List Value} (h : LR (V1 m) ((pn.map fun p => rp p).set i (ptr j)) l) : LR (V1 m) ((pn.set i g).map fun p => rp p) l := by
 have h2 : LR (V1 m) ((pn.map fun p => rp p).set i (ptr j)) ((pn.map cp).set i (cp g)) := (rps_cps.2 rfl).set i (ptr_cp hm)
 rw [LR.fn (R := V1 m) (fun _ _ _ => V1.fn hf) h h2]
 exact rps_cps.2 (by rw [List.map_set])
theorem set_len {α : Type} (l : List α) (a b : α) : (l ++ [a]).set l.length b = l ++ [b] := by
 induction l with
 | nil => rfl
 | cons x l ih => show x :: (l ++ [a]).set l.length b = _; rw [ih]; rfl
theorem nv_app {m : BM} (hf : m.Fn) {i j g : Nat} (hm : m j g 0) {pn : List Nat} (hi : i = pn.length) {l : List Value} (h : LR (V1 m) ((pn.map (fun p => rp p) ++ [Value.pointer none]).set i (ptr j)) l) : LR (V1 m) ((pn ++ [g]).map fun p => rp p) l := by
 have e : (pn.map (fun p => rp p) ++ [Value.pointer none]).set i (ptr j) = pn.map (fun p => rp p) ++ [ptr j] := by
  rw [hi, show pn.length = (pn.map fun p => rp p).length by rw [List.length_map]]
  exact set_len _ _ _
 rw [e] at h
 have h2 : LR (V1 m) (pn.map (fun p => rp p) ++ [ptr j]) (pn.map cp ++ [cp g]) := LR.append (rps_cps.2 rfl) ⟨ptr_cp hm, trivial⟩
 rw [LR.fn (R := V1 m) (fun _ _ _ => V1.fn hf) h h2]
 exact rps_cps.2 (by rw [List.map_append]; rfl)
theorem SafeC.more {C C' : CM} (h : ∀ x, x ∈ C → x ∈ C') {l : List (Option Nat)} {r : List (Option Cv)} (H : All2 (SafeC C) l r) : All2 (SafeC C') l r := H.mono fun p c x => by
 cases p <;> cases c <;> first | exact x | exact h _ x
section
variable {F : Nat → Prop} {B : Nat} {w0 : World} {m : BM} {n : Nat} {w : World}
theorem close_old {k : Dk} {E : EL} {q : Nat} {C : CM} {s data : ByteArray} {L : LF} {X X' : Fl} {fs : Fs} {nl ka sl kb wl kc : Nat} {nv sv wv : List Value} {sure : Bool}
 (H : HRel F B w0 m [(0, .own 58 (dkv 1 k)), (1, .mp (names E) ((spots E).set q (ptr 3))), (2, restI (E.eraseIdx q) C), (3, .own 69 [mslice 4 nl ka, mslice 5 sl kb, mslice 6 wl kc, .bool sure]),
  (4, .lst 70 1 ka nv), (5, .lst 70 1 kb sv), (6, .lst 4 1 kc wv), (7, .own 73 (cellv (some data)))] n w)
 (hq : E[q]? = some (s, L, X)) (pn : Nat → List Nat) (ps : List (Option Nat)) (h4 : ∀ g, m 7 g 0 → ∀ l, LR (V1 m) nv l → LR (V1 m) ((pn g).map fun p => rp p) l) (h5 : sv = ps.map ro) (h6 : wv = X'.wait.map .bool) (hs : sure = X'.sure)
 (n4 : ∀ g, nl = (pn g).length) (n5 : sl = ps.length) (n6 : wl = X'.wait.length) (c1 : ∀ g, All2 (fun p x => (p, x) ∈ (g, some data) :: C) (pn g) X'.now) (c2 : All2 (SafeC C) ps X'.safe)
 (hf : ((E.map fun e => (e.1, e.2.2)).set q (s, X')).Perm fs) : ∃ S, HRel F B w0 m [(0, diskI S ⟨k, fs⟩)] n w := by
 subst h5 h6 hs
 have hlt : q < E.length := by
  rcases Nat.lt_or_ge q E.length with y | y
  · exact y
  · rw [List.getElem?_eq_none y] at hq; cases hq
 obtain ⟨X'1, X'2, X'3, X'4⟩ := X'
 dsimp only at *
 obtain ⟨g, hg, H1⟩ := freeze H (q := 7) (r := 2) (c := some data) rfl rfl (by decide)
 have H2 := H1.re (i := 4) (it' := .lst 70 1 ka ((pn g).map fun p => rp p)) rfl (fun _ => rfl) (fun _ _ _ hb => hb) (fun g' s' _ ok => lst_re ok (h4 g hg))
 obtain ⟨L', hm, H3⟩ := close_file H2 (f := 3) (a := 4) (b := 5) (c := 6) (r := 2) s rfl rfl rfl rfl rfl (n4 g) n5 n6 (by simp) (c1 g) (SafeC.more (fun x hx => List.mem_cons_of_mem _ hx) c2)
 have H3 : HRel F B w0 m [(2, restI ((s, L', ⟨X'1, X'2, X'3, X'4⟩) :: E.eraseIdx q) ((g, some data) :: C)), (0, .own 58 (dkv 1 k)), (1, .mp (names E) ((spots E).set q (ptr 3)))] n w := H3
 let E' : EL := E.set q (s, L', ⟨X'1, X'2, X'3, X'4⟩)
 have hn : names E' = names E := by
  apply List.ext_getElem?
  intro i
  rw [List.getElem?_map, List.getElem?_map, List.getElem?_set]
  split
  · rename_i hi
    subst hi
    rw [hq]
    simp [hlt]
  · rfl
 have H4 := H3.re (i := 1) (it' := .mp (names E') (spots E')) rfl (fun _ => rfl) (fun _ _ _ hb => hb) (fun g' s' _ okm => by
  obtain ⟨a, b, A, clk, y1, y2, y3⟩ := okm
  refine ⟨a, b, A, clk, y1, hn ▸ y2, spots_cps.2 ?_⟩
  rw [spots_set hq H3.fn hm y3]
  show _ = (E.set q _).map _
  rw [List.map_set])
 obtain ⟨S, H5⟩ := close_disk H4 (i := 0) (j := 1) (r := 2) (E := E') rfl rfl rfl (by simp) (erase_set_perm _ hlt) (by
  show ((E.set q _).map _).Perm fs
  rw [List.map_set]
  exact hf)
 exact ⟨S, H5⟩
theorem close_new {k : Dk} {E : EL} {C : CM} {s data : ByteArray} {fs : Fs} {ka kb kc : Nat}
 (H : HRel F B w0 m [(0, .own 58 (dkv 1 k)), (1, .mp (names E ++ [.string s]) (spots E ++ [ptr 3])), (2, restI E C), (3, .own 69 [mslice 4 1 ka, mslice 5 1 kb, mslice 6 1 kc, .bool false]),
  (4, .lst 70 1 ka [ptr 7]), (5, .lst 70 1 kb [.pointer none]), (6, .lst 4 1 kc [.bool true]), (7, .own 73 (cellv (some data)))] n w)
 (hf : (filesOf E ++ [(s, (⟨[some data], [none], [true], false⟩ : Fl))]).Perm fs) : ∃ S, HRel F B w0 m [(0, diskI S ⟨k, fs⟩)] n w := by
 obtain ⟨g, hg, H1⟩ := freeze H (q := 7) (r := 2) (c := some data) rfl rfl (by decide)
 have H2 := H1.re (i := 4) (it' := .lst 70 1 ka ([g].map fun p => rp p)) rfl (fun _ => rfl) (fun _ _ _ hb => hb) (fun g' s' _ ok => lst_re ok fun l hl => nv_app (pn := []) H.fn hg rfl hl)
 have H2b := H2.re (i := 5) (it' := .lst 70 1 kb ([none].map ro)) rfl (fun _ => rfl) (fun _ _ _ hb => hb) (fun g' s' _ ok => ok)
 have H2c := H2b.re (i := 6) (it' := .lst 4 1 kc ([true].map .bool)) rfl (fun _ => rfl) (fun _ _ _ hb => hb) (fun g' s' _ ok => ok)
 obtain ⟨L', hm, H3⟩ := close_file H2c (f := 3) (a := 4) (b := 5) (c := 6) (r := 2) (now := [some data]) (safe := [none]) s rfl rfl rfl rfl rfl rfl rfl rfl (by simp) ⟨List.Mem.head _, trivial⟩ ⟨trivial, trivial⟩
 have H3 : HRel F B w0 m [(2, restI ((s, L', ⟨[some data], [none], [true], false⟩) :: E) ((g, some data) :: C)), (0, .own 58 (dkv 1 k)), (1, .mp (names E ++ [.string s]) (spots E ++ [ptr 3]))] n w := H3
 let E' : EL := E ++ [(s, L', ⟨[some data], [none], [true], false⟩)]
 have H4 := H3.re (i := 1) (it' := .mp (names E') (spots E')) rfl (fun _ => rfl) (fun _ _ _ hb => hb) (fun g' s' _ okm => by
  obtain ⟨a, b, A, clk, y1, y2, y3⟩ := okm
  refine ⟨a, b, A, clk, y1, y2.trans (by show _ = (E ++ [_]).map _; rw [List.map_append]; rfl), spots_cps.2 ?_⟩
  have h2 : LR (V1 m) (spots E ++ [ptr 3]) (E.map (fun e => cp e.2.1.g) ++ [cp L'.g]) := LR.append (spots_cps.2 rfl) ⟨ptr_cp hm, trivial⟩
  rw [LR.fn (R := V1 m) (fun _ _ _ => V1.fn H.fn) y3 h2]
  show _ = (E ++ [_]).map _
  rw [List.map_append]
  rfl)
 obtain ⟨S, H5⟩ := close_disk H4 (i := 0) (j := 1) (r := 2) (E := E') rfl rfl rfl (by simp) (List.perm_append_singleton _ _).symm (by
  show ((E ++ [_]).map _).Perm fs
  rw [List.map_append]
  exact hf)
 exact ⟨S, H5⟩
end
end Go.Proofs.YtelolcagncgfpaaGreat
namespace Go.Proofs.YtelolcagncgfpaaGreat
open Go.RowKit
set_option linter.unusedSimpArgs false
set_option linter.unusedVariables false
attribute [local irreducible] bytesOf strOf strEq strLt sfrom begS
abbrev newK (room : Int) : Dk := ⟨clampR room, false, 0, 0, 0, 0, 0⟩
theorem add_rest {F : Nat → Prop} {B : Nat} {w0 : World} {m : BM} {h : HP} {n : Nat} {w : World} (H : HRel F B w0 m h n w) : ∃ m', m.le m' ∧ HRel F B w0 m' ((n, restI [] []) :: h) (n + 1) w := by
 have A : HAcc F B w0 m h n w (fun _ => True) := ⟨H, fun _ _ _ _ _ _ _ _ => trivial⟩
 have no : ∀ b, ¬ SR [] [] b := fun b hb => by
  rcases hb with hb | ⟨_, hb, _⟩
  · cases hb
  · cases hb
 have A2 := A.add 0 nilS (restI [] []) ⟨.inl ⟨rfl, rfl⟩, fun b hb => (no b hb).elim, fun _ b hb => (no b hb).elim, RestAt.stab _ _, ⟨List.nodup_nil, fun _ h => (by cases h), fun _ h => (by cases h), fun _ h => (by cases h)⟩⟩ (fun b hb _ => no b hb)
 exact ⟨_, BM.le_put m n 0 nilS, A2.H⟩
theorem rnDiskTotal1 {p : Prop} (h : p := by refine ⟨?_, ?_, ?_⟩; (first | apply rR_tuple | apply rR_one rfl | exact rfl); all_goals (repeat' (first | (with_reducible (first | exact relH_nil | apply rn_lst | apply rn_own | apply rn_mp | apply rn_row | apply rn_abs | exact wo_nil)) | apply wo_keep rfl | apply wo_drop rfl | exact relH_nil | exact r1_flat rfl | exact r0_flat rfl | exact rl_nil | exact wo_nil | exact bk_old rfl | exact bk_new rfl | exact bk_nil rfl | apply rl_cons | (fail) | exact relL_flat (flat_map (fun _ => rfl) _) | exact relL_flat flat_nil | apply relL_to | apply rn_lst | apply rn_own | apply rn_mp | apply rn_row | apply relH_view rfl | apply relH_lview rfl | apply relH_fact rfl | exact r1_rig | exact r0_rig | exact r1_rigs | exact r0_rigs | apply wo_keep rfl | apply wo_drop rfl | apply r1_agg | apply rn_ptr | apply rn_slice | apply rn_slice0 | apply rn_iface | apply rn_map | apply rn_ifacem | apply r0_map | apply r0_ifacem | apply r0_ptr | apply r0_slice | apply r0_slice0 | apply r0_iface)); (first | done | fail)) : p := h
theorem cvDiskTotal2 {p : Prop} (h : p := by have nw := True.intro; (repeat' (first | exact True.intro | (with_reducible exact rfl) | (with_reducible exact AbsLe.refl) | (guard_target =~ @Eq Nat _ _; first | exact rfl | omega) | (guard_target =~ List.map _ _ = []; exact rfl) | (fail) | (exact congrArg (Value.int _) (by omega)) | (exact covL_flat (flat_map (fun _ => rfl) _)) | (exact covL_flat flat_nil) | (refine covP_all ?_; (try clear nw); have nw := True.intro) | (refine covL_each ?_; (try clear nw); have nw := True.intro) | (refine ⟨?_, ?_⟩ <;> (try clear nw) <;> have nw := True.intro) | (guard_hyp nw : True; ((conv => whnf) <;> clear nw)))); (first | done | fail)) : p := h
set_option maxRecDepth 100000 in
theorem new_l (a : Int) (h1 : -9223372036854775808 ≤ a ∧ a ≤ 9223372036854775807) :
 CallOb Tryz.prog 7 [iv a] [] 0 (fun v h n => ∃ k : Dk, k = newK a ∧ v = ptr 0 ∧ h = [(0, .own 58 (dkv 1 k)), (1, .mp [] [])] ∧ n = 2) := by
 refine (call_spec tabOk mixed Tryz.call7 Tryz.func7 rfl [] (fun z : Dk => z = newK a) (fun _ => ptr 0) (fun k => [(0, .own 58 (dkv 1 k)), (1, .mp [] [])]) (fun _ => 2) ?_ ?_)
 · exact (Nat.le_of_ble_eq_true rfl)
 (repeat' ((try (conv => whnf)); first | (guard_target =~ ∃ (_ : Value), ∃ (_ : HP), ∃ (_ : HP), _; refine ⟨_, _, _, rnDiskTotal1, ?_⟩; (try (dsimp only [Nat.reduceAdd, bC, bL]))) | (guard_target =~ CallOb _ 27 _ _ _ _; (with_reducible refine call_inline tabOk mixed Tryz.call27 Tryz.func27 ?_ [] ?_ ?_); exact rfl; exact Nat.le_of_ble_eq_true rfl) | (with_reducible first | refine chk_in (Nat.ble_eq_true_of_le omT) ?_ | (refine ifB_in ?_ ?_ <;> intro hb <;> (try simp only [bN1, bN2, bN3, bN4, bN5, bN6, bN7, bN8, bN9, bN0] at hb) <;> (try (exfalso; omega))) | refine ⟨_, w64b _, ?_⟩ | refine ⟨_, w64 omT omT, ?_⟩ | refine ⟨_, wu64 omT omT, ?_⟩ | refine ⟨_, wu8 omT omT, ?_⟩ | refine ⟨_, w64 szT szT, ?_⟩ | refine ⟨_, rfl, ?_⟩ | refine ⟨rfl, ?_⟩) | intro cap | (with_reducible refine ⟨trivial, ?_⟩) | (guard_target =~ (planChk _ _ = true) ∧ _; refine ⟨by kernel_rfl, ?_⟩) | (guard_target =~ (_ ∧ _) ∧ _; refine ⟨by ((repeat (first | exact trivial | refine ⟨rfl, ?_⟩)); (first | done | fail)), ?_⟩) | refine ⟨by omega, ?_⟩ | refine ⟨szT, ?_⟩ | refine ⟨0, rfl, ?_⟩ | refine ⟨1, rfl, ?_⟩ | refine ⟨2, rfl, ?_⟩ | refine ⟨3, rfl, ?_⟩ | refine ⟨4, rfl, ?_⟩ | refine ⟨5, rfl, ?_⟩ | (refine cell_at1 (by assumption) ?_) | (refine cell_in1 omT (fun x hx => ?_)) | fail)) <;> (try (conv => whnf))
 all_goals first
  | ((refine Ends.go ((⟨min (max a 0) 16384, false, 0, 0, 0, 0, 0⟩ : Dk)) ?_ [(0, some 0), (1, some 1)] (Fit.q cvDiskTotal2 (by rfl) (by rfl))); rfl)
  | ((refine Ends.go ((⟨min (max a 0) 16384, false, 0, 0, 0, 0, 0⟩ : Dk)) ?_ [(0, some 1), (1, some 0)] (Fit.q cvDiskTotal2 (by rfl) (by rfl))); rfl)
  | trace_state
theorem new_c (a : Int) (h1 : -9223372036854775808 ≤ a ∧ a ≤ 9223372036854775807) :
 CallOb Tryz.prog 7 [iv a] [] 0 (fun v h n => ∃ (D : DM) (S : Nat → Prop), D = newD a ∧ v = ptr 0 ∧ h = [(0, diskI S D)] ∧ n = 20) := by
 refine (new_l a h1).conv ?_
 rintro v h1 n1 ⟨k, rfl, rfl, rfl, rfl⟩ F B w0 m w c H hv
 obtain ⟨m', hm, H2⟩ := add_rest H
 obtain ⟨S, H3⟩ := close_disk H2 (i := 0) (j := 1) (r := 2) (E := []) (E2 := []) rfl rfl rfl (by simp) (List.Perm.refl _) (List.Perm.refl _)
 have H3 : HRel F B w0 m' [(0, diskI S (newD a))] 3 w := H3
 exact ⟨m', ptr 0, _, 20, hm, hv.mono hm, H3.up (BM.le_refl m') H3.fn (fun i g s x => Nat.lt_of_lt_of_le (H3.fresh i g s x) (by decide)), _, S, rfl, rfl, rfl, rfl⟩
end Go.Proofs.YtelolcagncgfpaaGreat
