/- Whether a node's children are pages, each once: node.unlike. -/
import Derived.Test.YtfjpinifmengcaaNodeIter
import Derived.Test.YtfjpinifmengcaaNodeRGood
import Derived.Test.YtfjpinifmengcaaShelf
import Derived.Lib.SlKeysI
namespace Go.Proofs.Ytfjpinifmengcaa
open Go.RowKit Go.Maps Go.Sort Go.Shelf
set_option linter.unusedSimpArgs false
set_option linter.unusedVariables false
abbrev sortZ (zs : List Int) : List Int := zs.mergeSort fun x y => decide (x ≤ y)
set_option maxRecDepth 100000 in
set_option maxHeartbeats 2000000 in
theorem sorted_in (F : Fence) (h56 : F.fn 56) (h69 : F.fn 69) (h70 : F.fn 70) (h71 : F.fn 71) (h74 : F.fn 74) (hro : F.round = none)
    (hsort : ∀ (blk off cap : Nat) (ss : List Int) (W : World), Holds encZ W blk off ss.toArray → blk < W.heap.size → ss.length < 4611686018427387904 →
      CallsIn F 9 Try.prog 70 #[.slice (some ⟨blk, off, none⟩) ss.length cap] W fun e w' => e = .returned (.tuple #[]) ∧ ∃ k os, w' = grow (putRow encZ (Sort.ahead W k) blk off (sortZ ss).toArray) os)
    (zs : List Int) (hpos : 0 < zs.length) (hlen : zs.length ≤ 1000000) (w : World) (Bs b off cap : Nat) (hB : Bs < w.heap.size) (hb : b < w.heap.size) (hbx : w.cell? ⟨Bs, 0, none⟩ = some (.slice (some ⟨b, off, none⟩) zs.length cap)) (hc : ∀ j x, zs[j]? = some x → w.cell? ⟨b, off + j, none⟩ = some (.int .i64 x)) :
    CallsIn F 10 Try.prog 56 #[.func (.func 71) #[] #[.pointer (some ⟨Bs, 0, none⟩)]] w fun e w' => ∃ gb c cur, e = .returned (.slice (some ⟨gb, 0, none⟩) zs.length c) ∧ w.heap.size ≤ gb ∧ zs.length ≤ c ∧ c ≤ maxLen ∧
      w'.heap[gb]? = some (.cells cur 3 (0, 0)) ∧ cur.size = c * 1 ∧ cur.toList.take zs.length = (sortZ zs).map iv ∧ Below w.heap.size w w' := by
  refine callsIn_of_wp Try.func56 rfl h56 ?_ hro
  have hseq : Gives F 7 71 #[.pointer (some ⟨Bs, 0, none⟩)] zs w := fun l J W hJ hY h0 => vals_in F 7 h71 hro (by omega) l Bs b off cap zs w (by omega) hB hb J hJ hY W hbx hc h0
  have cC := collect_in F 9 h69 h74 hro (by omega) 71 _ h71 Try.call71 zs (by unfold maxLen; omega) (by omega) _ hseq
  simp only [Try.ntmps56, List.size_toArray, List.length_cons, List.length_nil, Nat.reduceAdd, Nat.reduceSub, Array.replicate_succ, Array.replicate_zero, List.push_toArray, List.append_toArray, List.nil_append, List.cons_append]
  gi_wp2_with (gi_at_call 69; refine cC.mono ?_; rintro e W ⟨v, rfl, hrow, hb⟩)
  rcases hrow.2 with ⟨rfl, hz⟩ | ⟨gb, c, cur, rfl, hbase, hgb, r1, r2, r3, r4⟩
  · omega
  · have hH : Holds encZ W gb 0 zs.toArray := holds_of_block_i hgb (by simpa using r4)
    have hgl : gb < W.heap.size := (Array.getElem?_eq_some_iff.1 hgb).1
    have cS := hsort gb 0 c zs W hH hgl (by omega)
    gi_wp2_with (gi_at_call 70; refine cS.mono ?_; rintro e w' ⟨rfl, nn, os, rfl⟩)
    go_ret
    obtain ⟨_, hr⟩ := ownsRow_sorted_i (os := os) (n := nn) (ss := zs) (ts := sortZ zs) (by simp) hbase hgb r1 r2 r3
    rcases hr with ⟨h0, _⟩ | ⟨g2, c2, cur2, e2, _, hg2, _, _, s3, s4⟩
    · cases h0
    · cases e2
      exact ⟨gb, c, cur2, rfl, hbase, r1, r2, hg2, s3, by simpa using s4, hb.grown (grownBy_sorted_i _) hb.size (fun j hj => by cases hj; exact hbase)⟩
theorem sorted_any (zs : List Int) (hpos : 0 < zs.length) (hlen : zs.length ≤ 1000000) (w : World) (Bs b off cap : Nat) (hB : Bs < w.heap.size) (hb : b < w.heap.size) (hbx : w.cell? ⟨Bs, 0, none⟩ = some (.slice (some ⟨b, off, none⟩) zs.length cap)) (hc : ∀ j x, zs[j]? = some x → w.cell? ⟨b, off + j, none⟩ = some (.int .i64 x)) :
    Calls Try.prog 56 #[.func (.func 71) #[] #[.pointer (some ⟨Bs, 0, none⟩)]] w fun e w' => ∃ gb c cur, e = .returned (.slice (some ⟨gb, 0, none⟩) zs.length c) ∧ w.heap.size ≤ gb ∧ zs.length ≤ c ∧ c ≤ maxLen ∧
      w'.heap[gb]? = some (.cells cur 3 (0, 0)) ∧ cur.size = c * 1 ∧ cur.toList.take zs.length = (sortZ zs).map iv ∧ Below w.heap.size w w' :=
  (callsIn_wide (n := 10)).1 (sorted_in Fence.wide trivial trivial trivial trivial trivial rfl (fun blk off cap ss W hH hl hs => callsIn_wide.2 (Try.slices_Sort_int blk off cap ss W hH hl hs)) zs hpos hlen w Bs b off cap hB hb hbx hc)
theorem vr_func1 {m : BM} {f i : Nat} {c : Value} (h : VR m (.func (.func f) #[] #[ptr i]) c) : ∃ g s, m i g s ∧ s ≠ nilS ∧ c = .func (.func f) #[] #[.pointer (some ⟨g, 0 + sh s, none⟩)] := by
  obtain ⟨l, hl, rfl⟩ : ∃ l', LR (V0 m) [ptr i] l' ∧ c = .func (.func f) #[] l'.toArray := (VR.of1 rfl).1 h
  match l, hl with
  | [u], ⟨hu, _⟩ =>
    obtain ⟨b, ⟨_, g, s, hm, hs, rfl⟩, e⟩ := hu
    subst e
    exact ⟨g, s, hm, hs, rfl⟩
theorem flat_iv (l : List Int) : ∀ u ∈ l.map iv, flat1 u = true := fun u hu => by obtain ⟨x, _, rfl⟩ := List.mem_map.1 hu; rfl
theorem LR.ivs {m : BM} {l : List Int} {x : List Value} (h : LR (V1 m) (l.map iv) x) : x = l.map iv := LR.eq_of (fun u hu c hc => (V1.flat (flat_iv l u hu)).1 hc) h
theorem LR.ofIvs (m : BM) (l : List Int) : LR (V1 m) (l.map iv) (l.map iv) := LR.refl_of fun u hu => (V1.flat (flat_iv l u hu)).2 rfl
/-- slices.Sorted over slices.Values' closure. -/
theorem sorted_c (zs : List Int) (cap : Nat) (hpos : 0 < zs.length) (hlen : zs.length ≤ 1000000) : CallOb Try.prog 56 [.func (.func 71) #[] #[ptr 1]] [(1, .own 24 [mslice 0 zs.length cap]), (0, .lview (zs.map iv))] 2
    (fun v h m => ∃ z : Nat, zs.length ≤ z ∧ v = mslice 2 zs.length z ∧ h = [(2, .lst 3 1 z ((sortZ zs).map iv))] ∧ m = 3) := by
  refine ⟨Try.call56, fun F B w0 m w cs H ha => ?_⟩
  match cs, ha with
  | [c], ⟨hc, _⟩ =>
    obtain ⟨g, s, hm, hs, rfl⟩ := vr_func1 hc
    obtain ⟨rfl, _, l, hl, hB⟩ := H.at (i := 1) rfl hm
    match l, hl with
    | [u], ⟨hu, _⟩ =>
      obtain ⟨g0, s0, hm0, h0⟩ := VR.mslc.1 ((VR.of1 rfl).2 hu)
      rcases h0 with ⟨_, h1, _⟩ | ⟨hs0, rfl⟩
      · omega
      · rcases H.at (i := 0) rfl hm0 with ⟨h1, _⟩ | ⟨hlt, _, l0, hl0, hcells⟩
        · exact absurd h1 hs0
        · rw [LR.ivs hl0] at hcells
          refine (sorted_any zs hpos hlen w g g0 (0 + sh s0) cap hB.lt hlt (hB.cell 0) (fun j x hx => ?_)).mono ?_
          · rw [Nat.zero_add]; exact hcells j (iv x) (by rw [List.getElem?_map, hx]; rfl)
          · rintro e w' ⟨gb, c, cur, rfl, hge, hc1, hc2, hcur, hsz, htk, hbel⟩
            have H2 := H.push hbel (it := .lst 3 1 c ((sortZ zs).map iv)) hge (.inr ⟨rfl, .inl (Nat.le_trans H.base' hge), hc2, (sortZ zs).map iv, cur, LR.ofIvs _ _, hcur, hsz, by rw [List.length_map, List.length_mergeSort]; exact htk, by rw [List.length_map, List.length_mergeSort, hsz]; omega⟩)
            refine ⟨_, _, _, _, _, rfl, BM.le_add _ _ _, VR.newM _ _ _ _ _, H2.sub_of (h' := [(2, .lst 3 1 c ((sortZ zs).map iv))]) (fun i it hi => ?_), c, hc1, rfl, rfl, rfl⟩
            unfold lkH at hi ⊢
            cases hb2 : Nat.beq 2 i with
            | true => rw [hb2] at hi; exact hi
            | false => rw [hb2] at hi; cases hi
theorem adj_nodup {l : List Int} (hs : l.Pairwise (· ≤ ·)) : (∀ (j : Nat) (a b : Int), l[j]? = some a → l[j + 1]? = some b → a ≠ b) ↔ l.Nodup := by
  constructor
  · intro h
    refine List.pairwise_iff_getElem.2 fun i j hi hj hij e => ?_
    have h1 : l[i] ≤ l[j - 1] := by
      rcases Nat.lt_or_ge i (j - 1) with h1 | h1
      · exact (List.pairwise_iff_getElem.1 hs) i (j - 1) hi (by omega) h1
      · have : i = j - 1 := by omega
        subst this; exact Int.le_refl _
    have h2 := (List.pairwise_iff_getElem.1 hs) (j - 1) j (by omega) hj (by omega)
    have h3 := h (j - 1) l[j - 1] l[j] (List.getElem?_eq_getElem (by omega)) (by rw [show j - 1 + 1 = j by omega]; exact List.getElem?_eq_getElem hj)
    omega
  · intro h j a b ha hb e
    obtain ⟨h1, rfl⟩ := List.getElem?_eq_some_iff.1 ha
    obtain ⟨h2, rfl⟩ := List.getElem?_eq_some_iff.1 hb
    exact (List.pairwise_iff_getElem.1 h) j (j + 1) h1 h2 (by omega) e
theorem compact_len (l : List Int) : (Lib.compact l).length = l.length ↔ ∀ (j : Nat) (a b : Int), l[j]? = some a → l[j + 1]? = some b → a ≠ b := by
  unfold Lib.compact Lib.compactUpTo
  rw [List.length_map]
  have h0 : (List.range l.length).length = l.length := List.length_range
  constructor
  · intro h j a b ha hb
    have h1 := (List.length_filter_eq_length_iff (p := Lib.keeps l.toArray) (l := List.range l.length)).1 (h.trans h0.symm) (j + 1) (List.mem_range.2 (List.getElem?_eq_some_iff.1 hb).1)
    unfold Lib.keeps at h1
    rw [decide_eq_true_eq] at h1
    rcases h1 with h1 | h1
    · cases h1
    · rw [Nat.add_sub_cancel] at h1
      obtain ⟨q1, rfl⟩ := List.getElem?_eq_some_iff.1 ha
      obtain ⟨q2, rfl⟩ := List.getElem?_eq_some_iff.1 hb
      intro e
      apply h1
      rw [getElem!_pos l.toArray (j + 1) (by simpa using q2), getElem!_pos l.toArray j (by simpa using q1)]
      simpa using e.symm
  · intro h
    refine Eq.trans ((List.length_filter_eq_length_iff (p := Lib.keeps l.toArray) (l := List.range l.length)).2 fun j hj => ?_) h0
    have hj' := List.mem_range.1 hj
    unfold Lib.keeps
    rw [decide_eq_true_eq]
    rcases Nat.eq_zero_or_pos j with h1 | h1
    · exact .inl h1
    · right
      rw [getElem!_pos l.toArray j (by simpa using hj'), getElem!_pos l.toArray (j - 1) (by simp; omega)]
      have := h (j - 1) l[j - 1] l[j] (List.getElem?_eq_getElem (by omega)) (by rw [show j - 1 + 1 = j by omega]; exact List.getElem?_eq_getElem hj')
      intro e; exact this (by simpa using e.symm)
theorem compact_head (l : List Int) {a : Int} (h : l[0]? = some a) : (Lib.compact l)[0]? = some a := by
  obtain ⟨h1, rfl⟩ := List.getElem?_eq_some_iff.1 h
  unfold Lib.compact Lib.compactUpTo
  obtain ⟨n, hn⟩ : ∃ n, l.length = n + 1 := ⟨l.length - 1, by omega⟩
  rw [hn, List.range_succ_eq_map, List.filter_cons, if_pos (by simp [Lib.keeps])]
  have : l.toArray[0]! = l[0] := getElem!_pos l.toArray 0 (by simpa using h1)
  rw [List.map_cons, this]; rfl
theorem sortZ_sorted (zs : List Int) : (sortZ zs).Pairwise (· ≤ ·) := by
  have := List.pairwise_mergeSort (le := fun x y : Int => decide (x ≤ y)) (by intro a b c h1 h2; simp at *; omega) (by intro a b; simp; omega) zs
  exact this.imp fun h => by simpa using h
theorem foldl_max (l : List Int) : ∀ a : Int, a ≤ l.foldl max a ∧ (∀ d ∈ l, d ≤ l.foldl max a) ∧ (l.foldl max a = a ∨ l.foldl max a ∈ l) := by
  induction l with
  | nil => intro a; exact ⟨Int.le_refl _, fun d hd => (by cases hd), .inl rfl⟩
  | cons x l ih =>
    intro a
    obtain ⟨h1, h2, h3⟩ := ih (max a x)
    rw [List.foldl_cons]
    refine ⟨by omega, fun d hd => ?_, ?_⟩
    · rcases List.mem_cons.1 hd with rfl | hd
      · omega
      · exact h2 d hd
    · rcases h3 with h3 | h3
      · rw [h3]
        rcases Int.le_total a x with h | h
        · right; rw [Int.max_eq_right h]; exact List.mem_cons_self
        · left; exact Int.max_eq_left h
      · right; exact List.mem_cons_of_mem _ h3
theorem maxOf_spec {l : List Int} (h : 0 < l.length) : Lib.maxOf l ∈ l ∧ ∀ d ∈ l, d ≤ Lib.maxOf l := by
  cases l with
  | nil => cases h
  | cons x l =>
    obtain ⟨h1, h2, h3⟩ := foldl_max (x :: l) x
    refine ⟨?_, h2⟩
    rcases h3 with h3 | h3
    · show (x :: l).foldl max x ∈ _
      rw [h3]; exact List.mem_cons_self
    · exact h3
theorem max_c (zs : List Int) (cap : Nat) (hpos : 0 < zs.length) (hlen : zs.length ≤ 1000000) : CallOb Try.prog 59 [mslice 0 zs.length cap] [(0, .lview (zs.map iv))] 1
    (fun v h m => ∃ z : Int, (z ∈ zs ∧ ∀ d ∈ zs, d ≤ z) ∧ v = iv z ∧ h = [] ∧ m = 1) := by
  refine ⟨Try.call59, fun F B w0 m w cs H ha => ?_⟩
  match cs, ha with
  | [c], ⟨hc, _⟩ =>
    obtain ⟨g0, s0, hm0, h0⟩ := VR.mslc.1 hc
    rcases h0 with ⟨_, h1, _⟩ | ⟨hs0, rfl⟩
    · omega
    · rcases H.at (i := 0) rfl hm0 with ⟨h1, _⟩ | ⟨hlt, _, l0, hl0, hcells⟩
      · exact absurd h1 hs0
      · rw [LR.ivs hl0] at hcells
        refine (Try.slices_Max_int g0 (0 + sh s0) zs.length cap zs w hpos (Nat.le_refl _) (by omega) (fun j hj => ?_)).mono ?_
        · rw [Nat.zero_add]; exact hcells j (iv (zs.getD j 0)) (by rw [List.getElem?_map, List.getD_eq_getElem?_getD, List.getElem?_eq_getElem hj]; rfl)
        · rintro e w' ⟨rfl, rfl⟩
          rw [List.take_length]
          exact ⟨m, iv (Lib.maxOf zs), _, [], 1, rfl, BM.le_refl m, VR.same rfl, H.sub_of (fun i it hi => by cases hi), _, maxOf_spec hpos, rfl, rfl, rfl⟩
theorem compact_c (ss : List Int) (cap : Nat) (hpos : 0 < ss.length) (hlen : ss.length ≤ 1000000) (hcap : ss.length ≤ cap) : CallOb Try.prog 58 [mslice 0 ss.length cap] [(0, .lst 3 1 cap (ss.map iv))] 1
    (fun v h m => ∃ z : Nat × List Int, ((z.1 = ss.length ↔ ∀ (j : Nat) (a b : Int), ss[j]? = some a → ss[j + 1]? = some b → a ≠ b) ∧ z.1 ≤ ss.length ∧ z.2.length = ss.length ∧ (∀ a, ss[0]? = some a → z.2[0]? = some a)) ∧ v = mslice 0 z.1 cap ∧ h = [(0, .lst 3 1 cap (z.2.map iv))] ∧ m = 1) := by
  refine ⟨Try.call58, fun F B w0 m w cs H ha => ?_⟩
  match cs, ha with
  | [c], ⟨hc, _⟩ =>
    obtain ⟨g0, s0, hm0, h0⟩ := VR.mslc.1 hc
    rcases h0 with ⟨_, h1, _⟩ | ⟨hs0, rfl⟩
    · omega
    · rcases H.at (i := 0) rfl hm0 with ⟨h1, _⟩ | ⟨rfl, hfr, hcm, l0, cur, hl0, hcur, hsz, htk, hle⟩
      · exact absurd h1 hs0
      · rw [LR.ivs hl0, List.length_map] at htk hle
        have hH : Holds encZ w g0 0 ss.toArray := holds_of_block_i hcur htk
        rw [sh_zero]
        refine (Try.slices_Compact_int g0 0 cap ss w hH (by omega) hcap).mono ?_
        rintro e w' ⟨rfl, q, rfl⟩
        have hcl : (Lib.compact ss).length ≤ ss.length := Lib.compact_length_le ss
        have hzl : (Lib.compact ss ++ List.replicate (ss.length - (Lib.compact ss).length) 0).length = ss.length := by rw [List.length_append, List.length_replicate]; omega
        generalize hz : Lib.compact ss ++ List.replicate (ss.length - (Lib.compact ss).length) 0 = zl at *
        have hb2 := heap_sorted_i (n := q) (os := #[]) zl.toArray hcur
        have hg2 := grownBy_sorted_i (w := w) (g := g0) (n := q) (os := #[]) zl.toArray
        have ew : grow (putRow encZ (Sort.ahead w q) g0 0 zl.toArray) #[] = putRow encZ (Sort.ahead w q) g0 0 zl.toArray := by
          show ({ (putRow encZ (Sort.ahead w q) g0 0 zl.toArray) with heap := (putRow encZ (Sort.ahead w q) g0 0 zl.toArray).heap ++ #[] } : World) = _
          rw [Array.append_empty]
        rw [ew] at hb2 hg2
        have hsz2 : (putRow encZ (Sort.ahead w q) g0 0 zl.toArray).heap.size = w.heap.size := by simp
        have H2 := H.upd (b := 0) rfl rfl (it' := .lst 3 1 cap (zl.map iv)) rfl hm0 hfr (w' := putRow encZ (Sort.ahead w q) g0 0 zl.toArray)
          (fun k hk => by
            rcases Nat.lt_or_ge k w.heap.size with h | h
            · exact hg2.block k h (fun e => hk (by cases e; rfl))
            · rw [Array.getElem?_eq_none (by omega), Array.getElem?_eq_none (by omega)])
          hsz2 rfl rfl rfl (.inr ⟨rfl, hfr, hcm, zl.map iv, _, LR.ofIvs _ _, hb2, by simp [putCells, hsz], by rw [List.length_map]; exact take_putCells_i cur zl (by omega), by simp [putCells]; omega⟩)
        refine ⟨m, mslice 0 (Lib.compact ss).length cap, _, _, 1, rfl, BM.le_refl m, VR.slc_at (m := m) (b := 0) (o := 0) hm0 zero_ne_nilS (some 0) _ _, H2, ((Lib.compact ss).length, zl), ⟨compact_len ss, hcl, hzl, fun a ha => ?_⟩, rfl, rfl, rfl⟩
        show zl[0]? = some a
        have h1 := compact_head ss ha
        rw [← hz, List.getElem?_append_left (List.getElem?_eq_some_iff.1 h1).1]; exact h1
attribute [local irreducible] numOf fixedL bytesOf strOf strEq strLt sfrom padL unvar unfixed varL
set_option maxHeartbeats 1000000 in
set_option maxRecDepth 100000 in
theorem unlike_c (zs : List Int) (cap : Nat) (hpos : 0 < zs.length) (hlen : zs.length ≤ 1000000) : CallOb Try.prog 30 [mslice 0 zs.length cap] [(0, .lview (zs.map iv))] 1 (fun v hh m => ∃ z : Bool, (z = true ↔ zs.Nodup ∧ ∀ d ∈ zs, IsPg d) ∧ v = .bool z ∧ hh = [] ∧ m = 1) := by
  have hsl : (sortZ zs).length = zs.length := List.length_mergeSort zs
  have hperm : (sortZ zs).Perm zs := List.mergeSort_perm zs _
  refine call_spec tabOk mixed Try.call30 Try.func30 rfl [] (fun z : Bool => z = true ↔ zs.Nodup ∧ ∀ d ∈ zs, IsPg d) (fun z => .bool z) (fun _ => []) (fun _ => 1) ?_ ?_
  · exact (Nat.le_of_ble_eq_true rfl)
  (repeat' ((try (conv => whnf)); first | (guard_target =~ CallOb _ 57 _ _ _ _; (with_reducible refine call_inline tabOk mixed Try.call57 Try.func57 ?_ [] ?_ ?_); exact rfl; exact Nat.le_of_ble_eq_true rfl) | ((guard_target =~ CallOb _ 56 _ _ _ _; refine call_q (sorted_c zs cap hpos hlen) [(0, some 0), (1, some 1)] (by (repeat' (first | exact True.intro | (with_reducible exact rfl) | (guard_target =~ @Eq Nat _ _; first | exact rfl | omega) | (guard_target =~ List.map _ _ = []; exact rfl) | (fail) | (exact congrArg (Value.int _) (by omega)) | (exact covL_flat (flat_map (fun _ => rfl) _)) | (exact covL_flat flat_nil) | (refine covP_all ?_) | (refine covL_each ?_) | (refine ⟨?_, ?_⟩) | ((conv => whnf); (first | exact True.intro | (with_reducible exact rfl) | (guard_target =~ @Eq Nat _ _; first | exact rfl | omega) | (guard_target =~ List.map _ _ = []; exact rfl) | (fail) | (exact congrArg (Value.int _) (by omega)) | (exact covL_flat (flat_map (fun _ => rfl) _)) | (exact covL_flat flat_nil) | (refine covP_all ?_) | (refine covL_each ?_) | (refine ⟨?_, ?_⟩) | done)))); (first | done | fail)) (by rfl) (by rfl) (by rfl) (fun v h1 n1 hp => ?_); obtain ⟨zc, hzc, rfl, rfl, rfl⟩ := hp; refine ⟨_, _, _, (by refine ⟨?_, ?_, ?_⟩; (first | apply rR_tuple | apply rR_one rfl | exact rfl); all_goals (repeat' (first | exact relH_nil | exact r1_flat rfl | exact r0_flat rfl | exact rl_nil | exact wo_nil | exact bk_old rfl | exact bk_new rfl | exact bk_nil rfl | apply rl_cons | (fail) | exact relL_flat (flat_map (fun _ => rfl) _) | exact relL_flat flat_nil | apply relL_to | apply rn_lst | apply rn_own | apply rn_mp | apply rn_row | apply relH_view rfl | apply relH_lview rfl | apply wo_keep rfl | apply wo_drop rfl | apply r1_agg | apply rn_ptr | apply rn_slice | apply rn_iface | apply rn_map | apply rn_ifacem | apply r0_map | apply r0_ifacem | apply r0_ptr | apply r0_slice | apply r0_iface)); (first | done | fail)), ?_⟩); dsimp only [Nat.reduceAdd]) | ((guard_target =~ CallOb _ 58 _ _ _ _; refine call_q (hsl ▸ compact_c (sortZ zs) zc (by omega) (by omega) (by omega)) [(0, some 4)] (by (repeat' (first | exact True.intro | (with_reducible exact rfl) | (guard_target =~ @Eq Nat _ _; first | exact rfl | omega) | (guard_target =~ List.map _ _ = []; exact rfl) | (fail) | (exact congrArg (Value.int _) (by omega)) | (exact covL_flat (flat_map (fun _ => rfl) _)) | (exact covL_flat flat_nil) | (refine covP_all ?_) | (refine covL_each ?_) | (refine ⟨?_, ?_⟩) | ((conv => whnf); (first | exact True.intro | (with_reducible exact rfl) | (guard_target =~ @Eq Nat _ _; first | exact rfl | omega) | (guard_target =~ List.map _ _ = []; exact rfl) | (fail) | (exact congrArg (Value.int _) (by omega)) | (exact covL_flat (flat_map (fun _ => rfl) _)) | (exact covL_flat flat_nil) | (refine covP_all ?_) | (refine covL_each ?_) | (refine ⟨?_, ?_⟩) | done)))); (first | done | fail)) (by rfl) (by rfl) (by rfl) (fun v h1 n1 hp => ?_); obtain ⟨zk, hzk, rfl, rfl, rfl⟩ := hp; refine ⟨_, _, _, (by refine ⟨?_, ?_, ?_⟩; (first | apply rR_tuple | apply rR_one rfl | exact rfl); all_goals (repeat' (first | exact relH_nil | exact r1_flat rfl | exact r0_flat rfl | exact rl_nil | exact wo_nil | exact bk_old rfl | exact bk_new rfl | exact bk_nil rfl | apply rl_cons | (fail) | exact relL_flat (flat_map (fun _ => rfl) _) | exact relL_flat flat_nil | apply relL_to | apply rn_lst | apply rn_own | apply rn_mp | apply rn_row | apply relH_view rfl | apply relH_lview rfl | apply wo_keep rfl | apply wo_drop rfl | apply r1_agg | apply rn_ptr | apply rn_slice | apply rn_iface | apply rn_map | apply rn_ifacem | apply r0_map | apply r0_ifacem | apply r0_ptr | apply r0_slice | apply r0_iface)); (first | done | fail)), ?_⟩); dsimp only [Nat.reduceAdd]) | ((guard_target =~ CallOb _ 59 _ _ _ _; refine call_q (max_c zs cap hpos hlen) [(0, some 0)] (by (repeat' (first | exact True.intro | (with_reducible exact rfl) | (guard_target =~ @Eq Nat _ _; first | exact rfl | omega) | (guard_target =~ List.map _ _ = []; exact rfl) | (fail) | (exact congrArg (Value.int _) (by omega)) | (exact covL_flat (flat_map (fun _ => rfl) _)) | (exact covL_flat flat_nil) | (refine covP_all ?_) | (refine covL_each ?_) | (refine ⟨?_, ?_⟩) | ((conv => whnf); (first | exact True.intro | (with_reducible exact rfl) | (guard_target =~ @Eq Nat _ _; first | exact rfl | omega) | (guard_target =~ List.map _ _ = []; exact rfl) | (fail) | (exact congrArg (Value.int _) (by omega)) | (exact covL_flat (flat_map (fun _ => rfl) _)) | (exact covL_flat flat_nil) | (refine covP_all ?_) | (refine covL_each ?_) | (refine ⟨?_, ?_⟩) | done)))); (first | done | fail)) (by rfl) (by rfl) (by rfl) (fun v h1 n1 hp => ?_); obtain ⟨zm, hzm, rfl, rfl, rfl⟩ := hp; refine ⟨_, _, _, (by refine ⟨?_, ?_, ?_⟩; (first | apply rR_tuple | apply rR_one rfl | exact rfl); all_goals (repeat' (first | exact relH_nil | exact r1_flat rfl | exact r0_flat rfl | exact rl_nil | exact wo_nil | exact bk_old rfl | exact bk_new rfl | exact bk_nil rfl | apply rl_cons | (fail) | exact relL_flat (flat_map (fun _ => rfl) _) | exact relL_flat flat_nil | apply relL_to | apply rn_lst | apply rn_own | apply rn_mp | apply rn_row | apply relH_view rfl | apply relH_lview rfl | apply wo_keep rfl | apply wo_drop rfl | apply r1_agg | apply rn_ptr | apply rn_slice | apply rn_iface | apply rn_map | apply rn_ifacem | apply r0_map | apply r0_ifacem | apply r0_ptr | apply r0_slice | apply r0_iface)); (first | done | fail)), ?_⟩); dsimp only [Nat.reduceAdd]) | ((guard_target =~ CallOb _ 54 _ _ _ _; refine call_q (ispage_c _) [] (by (repeat' (first | exact True.intro | (with_reducible exact rfl) | (guard_target =~ @Eq Nat _ _; first | exact rfl | omega) | (guard_target =~ List.map _ _ = []; exact rfl) | (fail) | (exact congrArg (Value.int _) (by omega)) | (exact covL_flat (flat_map (fun _ => rfl) _)) | (exact covL_flat flat_nil) | (refine covP_all ?_) | (refine covL_each ?_) | (refine ⟨?_, ?_⟩) | ((conv => whnf); (first | exact True.intro | (with_reducible exact rfl) | (guard_target =~ @Eq Nat _ _; first | exact rfl | omega) | (guard_target =~ List.map _ _ = []; exact rfl) | (fail) | (exact congrArg (Value.int _) (by omega)) | (exact covL_flat (flat_map (fun _ => rfl) _)) | (exact covL_flat flat_nil) | (refine covP_all ?_) | (refine covL_each ?_) | (refine ⟨?_, ?_⟩) | done)))); (first | done | fail)) (by rfl) (by rfl) (by rfl) (fun v h1 n1 hp => ?_); obtain ⟨z, hz, rfl, rfl, rfl⟩ := hp; refine ⟨_, _, _, (by refine ⟨?_, ?_, ?_⟩; (first | apply rR_tuple | apply rR_one rfl | exact rfl); all_goals (repeat' (first | exact relH_nil | exact r1_flat rfl | exact r0_flat rfl | exact rl_nil | exact wo_nil | exact bk_old rfl | exact bk_new rfl | exact bk_nil rfl | apply rl_cons | (fail) | exact relL_flat (flat_map (fun _ => rfl) _) | exact relL_flat flat_nil | apply relL_to | apply rn_lst | apply rn_own | apply rn_mp | apply rn_row | apply relH_view rfl | apply relH_lview rfl | apply wo_keep rfl | apply wo_drop rfl | apply r1_agg | apply rn_ptr | apply rn_slice | apply rn_iface | apply rn_map | apply rn_ifacem | apply r0_map | apply r0_ifacem | apply r0_ptr | apply r0_slice | apply r0_iface)); (first | done | fail)), ?_⟩); dsimp only [Nat.reduceAdd]) | (refine cell_in1 (f := iv) (i := 0) (by omega) (fun y hy => ?_)) | (refine cell_at1 (by assumption) ?_) | (refine cell_in1 (by omega) (fun y hy => ?_)) | (with_reducible refine chk_in (Nat.ble_eq_true_of_le (by omega)) ?_) | (with_reducible refine ifB_in ?_ ?_ <;> intro hb <;> (try simp only [decide_eq_true_eq, decide_eq_false_iff_not, Int.not_lt, Int.not_le, ne_eq, Decidable.not_not, Bool.not_eq_true', Bool.not_eq_false', gt_iff_lt, ge_iff_le] at hb) <;> (try (exfalso; omega))) | (with_reducible refine ⟨_, w64b _, ?_⟩) | (with_reducible refine ⟨_, w64 (by omega) (by omega), ?_⟩) | (with_reducible refine ⟨_, wu64 (by omega) (by omega), ?_⟩) | (with_reducible refine ⟨_, wu8 (by omega) (by omega), ?_⟩) | (with_reducible refine ⟨_, w64 (by (simp only [size_sfrom, ByteArray.size_extract, ByteArray.size_append, strOf_size, fixedL_length, lit_size, List.size_toArray, List.length_cons, List.length_nil, List.length_append, List.length_replicate]; omega)) (by (simp only [size_sfrom, ByteArray.size_extract, ByteArray.size_append, strOf_size, fixedL_length, lit_size, List.size_toArray, List.length_cons, List.length_nil, List.length_append, List.length_replicate]; omega)), ?_⟩) | (with_reducible refine ⟨_, rfl, ?_⟩) | (with_reducible refine ⟨rfl, ?_⟩) | (intro cap) | (with_reducible refine ⟨trivial, ?_⟩) | (guard_target =~ (planChk _ _ = true) ∧ _; refine ⟨by kernel_rfl, ?_⟩) | (guard_target =~ (_ ∧ _) ∧ _; refine ⟨by ((repeat (first | exact trivial | refine ⟨rfl, ?_⟩)); (first | done | fail)), ?_⟩) | (refine ⟨by omega, ?_⟩) | (refine ⟨by (simp only [size_sfrom, ByteArray.size_extract, ByteArray.size_append, strOf_size, fixedL_length, lit_size, List.size_toArray, List.length_cons, List.length_nil, List.length_append, List.length_replicate]; omega), ?_⟩) | (refine ⟨0, rfl, ?_⟩) | (refine ⟨1, rfl, ?_⟩) | (refine ⟨2, rfl, ?_⟩) | (refine ⟨3, rfl, ?_⟩) | (refine ⟨4, rfl, ?_⟩) | (refine ⟨5, rfl, ?_⟩) | (refine cell_at1 (by assumption) ?_) | (refine cell_in1 (by omega) (fun x hx => ?_)) | fail)) <;> (try (conv => whnf))
  · (refine Ends.go (z) ?_ [] (Fit.q (by (repeat' (first | exact True.intro | (with_reducible exact rfl) | (guard_target =~ @Eq Nat _ _; first | exact rfl | omega) | (guard_target =~ List.map _ _ = []; exact rfl) | (fail) | (exact congrArg (Value.int _) (by omega)) | (exact covL_flat (flat_map (fun _ => rfl) _)) | (exact covL_flat flat_nil) | (refine covP_all ?_) | (refine covL_each ?_) | (refine ⟨?_, ?_⟩) | ((conv => whnf); (first | exact True.intro | (with_reducible exact rfl) | (guard_target =~ @Eq Nat _ _; first | exact rfl | omega) | (guard_target =~ List.map _ _ = []; exact rfl) | (fail) | (exact congrArg (Value.int _) (by omega)) | (exact covL_flat (flat_map (fun _ => rfl) _)) | (exact covL_flat flat_nil) | (refine covP_all ?_) | (refine covL_each ?_) | (refine ⟨?_, ?_⟩) | done)))); (first | done | fail)) (by rfl) (by rfl)))
    have hy2 : (sortZ zs)[0]? = some y := by
      obtain ⟨a, ha⟩ : ∃ a, (sortZ zs)[0]? = some a := ⟨_, List.getElem?_eq_getElem (by omega)⟩
      have := hzk.2.2.2 a ha; rw [hy] at this; rw [ha, this]
    have hlo : ∀ d ∈ zs, y ≤ d := fun d hd => by
      obtain ⟨j, hj, rfl⟩ := List.getElem_of_mem (hperm.mem_iff.2 hd)
      obtain ⟨h0, rfl⟩ := List.getElem?_eq_some_iff.1 hy2
      rcases Nat.eq_zero_or_pos j with h | h
      · subst h; exact Int.le_refl _
      · exact (List.pairwise_iff_getElem.1 (sortZ_sorted zs)) 0 j h0 hj h
    have hnd : zs.Nodup := hperm.nodup_iff.1 ((adj_nodup (sortZ_sorted zs)).1 (hzk.1.1 (by omega)))
    have hyp := (‹_ = true ↔ IsPg y›).1 (by assumption)
    refine hz.trans ⟨fun h => ⟨hnd, fun d hd => ?_⟩, fun h => h.2 _ hzm.1⟩
    have h1 := hlo d hd
    have h2 := hzm.2 d hd
    unfold IsPg at *; omega
  · (refine Ends.go (false) ?_ [] (Fit.q (by (repeat' (first | exact True.intro | (with_reducible exact rfl) | (guard_target =~ @Eq Nat _ _; first | exact rfl | omega) | (guard_target =~ List.map _ _ = []; exact rfl) | (fail) | (exact congrArg (Value.int _) (by omega)) | (exact covL_flat (flat_map (fun _ => rfl) _)) | (exact covL_flat flat_nil) | (refine covP_all ?_) | (refine covL_each ?_) | (refine ⟨?_, ?_⟩) | ((conv => whnf); (first | exact True.intro | (with_reducible exact rfl) | (guard_target =~ @Eq Nat _ _; first | exact rfl | omega) | (guard_target =~ List.map _ _ = []; exact rfl) | (fail) | (exact congrArg (Value.int _) (by omega)) | (exact covL_flat (flat_map (fun _ => rfl) _)) | (exact covL_flat flat_nil) | (refine covP_all ?_) | (refine covL_each ?_) | (refine ⟨?_, ?_⟩) | done)))); (first | done | fail)) (by rfl) (by rfl)))
    have hy2 : (sortZ zs)[0]? = some y := by
      obtain ⟨a, ha⟩ : ∃ a, (sortZ zs)[0]? = some a := ⟨_, List.getElem?_eq_getElem (by omega)⟩
      have := hzk.2.2.2 a ha; rw [hy] at this; rw [ha, this]
    refine iff_of_false (fun h => by cases h) (fun h => ?_)
    have := hz.2 (h.2 y (hperm.mem_iff.1 (List.mem_of_getElem? hy2)))
    rw [hb] at this; cases this
  · (refine Ends.go (false) ?_ [] (Fit.q (by (repeat' (first | exact True.intro | (with_reducible exact rfl) | (guard_target =~ @Eq Nat _ _; first | exact rfl | omega) | (guard_target =~ List.map _ _ = []; exact rfl) | (fail) | (exact congrArg (Value.int _) (by omega)) | (exact covL_flat (flat_map (fun _ => rfl) _)) | (exact covL_flat flat_nil) | (refine covP_all ?_) | (refine covL_each ?_) | (refine ⟨?_, ?_⟩) | ((conv => whnf); (first | exact True.intro | (with_reducible exact rfl) | (guard_target =~ @Eq Nat _ _; first | exact rfl | omega) | (guard_target =~ List.map _ _ = []; exact rfl) | (fail) | (exact congrArg (Value.int _) (by omega)) | (exact covL_flat (flat_map (fun _ => rfl) _)) | (exact covL_flat flat_nil) | (refine covP_all ?_) | (refine covL_each ?_) | (refine ⟨?_, ?_⟩) | done)))); (first | done | fail)) (by rfl) (by rfl)))
    refine iff_of_false (fun h => by cases h) (fun h => hb ?_)
    have := hzk.1.2 ((adj_nodup (sortZ_sorted zs)).2 (hperm.nodup_iff.2 h.1))
    omega
end Go.Proofs.Ytfjpinifmengcaa
