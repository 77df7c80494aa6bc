/- A leaf's size is 3 bytes and those of its cells, each by itself: the law's walk. -/
import Derived.Test.YtfjpinifmengcaaNodeLaw
namespace Go.Proofs.Ytfjpinifmengcaa
open Go.RowKit
set_option linter.unusedSimpArgs false
set_option linter.unusedVariables false
def elen (k : ByteArray) (c : Cel) : Nat := (varL k.size).length + k.size + (valN true c 0).length
def elens (n : Nd) : List Nat := List.zipWith elen n.keys n.cells
theorem encTo_sum {n : Nd} (hl : n.leaf = true) (hc : n.cells.length = n.keys.length) : ∀ i, i ≤ n.keys.length → (encTo n i).length = 3 + ((elens n).take i).sum
  | 0, _ => by rw [hdr_pos, hl]; simp [fixedL_length]
  | i + 1, hi => by
    obtain ⟨k, hk⟩ : ∃ k, n.keys[i]? = some k := ⟨_, List.getElem?_eq_getElem hi⟩
    obtain ⟨c, hq⟩ : ∃ k, n.cells[i]? = some k := ⟨_, List.getElem?_eq_getElem (by omega)⟩
    have he : (elens n)[i]? = some (elen k c) := by unfold elens; rw [List.getElem?_zipWith, hk, hq]
    have h1 : (entN n i).length = elen k c := by
      unfold entN elen valN
      rw [List.getD_eq_getElem?_getD, hk, List.getD_eq_getElem?_getD, hq, hl]
      simp [bytesOf_length]
      omega
    show (encTo n i ++ entN n i).length = _
    rw [List.length_append, encTo_sum hl hc i (by omega), h1, take_succ_of he, List.sum_append]
    simp; omega
theorem encN_sum {n : Nd} (hl : n.leaf = true) (hc : n.cells.length = n.keys.length) : (encN n).length = 3 + (elens n).sum := by
  have h := encTo_sum hl hc n.keys.length (Nat.le_refl _)
  have : (elens n).take n.keys.length = elens n := List.take_of_length_le (by unfold elens; rw [List.length_zipWith]; omega)
  rw [this] at h; exact h
abbrev lessN (n : Nd) (q : Nat) : Nd := ⟨true, n.keys.take q ++ n.keys.drop (q + 1), n.cells.take q ++ n.cells.drop (q + 1), []⟩
abbrev aloneN (n : Nd) (q : Nat) : Nd := ⟨true, (n.keys.drop q).take 1, (n.cells.drop q).take 1, []⟩
theorem less_get {α : Type} (l : List α) (q j : Nat) (hq : q ≤ l.length) : (l.take q ++ l.drop (q + 1))[j]? = if j < q then l[j]? else l[j + 1]? := by
  have hl : (l.take q).length = q := by rw [List.length_take]; omega
  split
  · rw [List.getElem?_append_left (by omega), List.getElem?_take_of_lt (by omega)]
  · rw [List.getElem?_append_right (by omega), List.getElem?_drop, hl]; congr 1; omega
theorem ok_less {n : Nd} {q : Nat} (H : OkN n) (hl : n.leaf = true) (hq : q < n.keys.length) : OkN (lessN n q) := by
  have hc := (H.lf hl).1
  refine ⟨fun j k hj hk => ?_, fun _ => ⟨by simp; omega, rfl, fun c hm => ?_⟩, fun h => by cases h⟩
  · dsimp only at hk
    rw [less_get _ _ _ (by omega)] at hk
    have hz : ∃ p : Nat, n.keys[p]? = some k := by split at hk <;> exact ⟨_, hk⟩
    obtain ⟨p, hp⟩ := hz
    refine ⟨(H.rise.at hp).1, fun y h1 hy => ?_⟩
    dsimp only at hy
    rw [less_get _ _ _ (by omega)] at hy
    split at hk <;> split at hy
    · exact H.rise.lt' (by omega) hy hk
    · omega
    · exact H.rise.lt' (by omega) hy hk
    · exact H.rise.lt' (by omega) hy hk
  · dsimp only at hm
    rcases List.mem_append.1 hm with h | h
    · exact (H.lf hl).2.2 c (List.mem_of_mem_take h)
    · exact (H.lf hl).2.2 c (List.mem_of_mem_drop h)
theorem one_of {α : Type} {l : List α} {q : Nat} {x : α} (h : l[q]? = some x) : (l.drop q).take 1 = [x] := by
  obtain ⟨hq, rfl⟩ := List.getElem?_eq_some_iff.1 h
  rw [List.drop_eq_getElem_cons hq]; rfl
theorem ok_alone {n : Nd} {q : Nat} (H : OkN n) (hl : n.leaf = true) (hq : q < n.keys.length) : OkN (aloneN n q) := by
  have hc := (H.lf hl).1
  obtain ⟨k, hk⟩ : ∃ k, n.keys[q]? = some k := ⟨_, List.getElem?_eq_getElem hq⟩
  obtain ⟨c, hcq⟩ : ∃ k, n.cells[q]? = some k := ⟨_, List.getElem?_eq_getElem (by omega)⟩
  refine ⟨?_, fun _ => ⟨by dsimp only; rw [one_of hk, one_of hcq]; rfl, rfl, fun d hm => ?_⟩, fun h => by cases h⟩
  · dsimp only; rw [one_of hk]; exact rise_one _ (H.rise.at hk).1
  · dsimp only at hm
    rw [one_of hcq] at hm
    obtain rfl : d = c := by simpa using hm
    exact (H.lf hl).2.2 _ (List.mem_of_getElem? hcq)
theorem sum_split (l : List Nat) {q e : Nat} (h : l[q]? = some e) : l.sum = ((l.take q).sum + (l.drop (q + 1)).sum) + e := by
  obtain ⟨hq, rfl⟩ := List.getElem?_eq_some_iff.1 h
  have : l = l.take q ++ (l[q] :: l.drop (q + 1)) := by rw [← List.drop_eq_getElem_cons hq, List.take_append_drop]
  have h2 := congrArg List.sum this
  rw [List.sum_append, List.sum_cons] at h2
  omega
theorem sums_all {n : Nd} {q : Nat} {z1 z2 z3 : Int} (H : OkN n) (hl : n.leaf = true) (hq : q < n.keys.length) (h1 : SizeIs (lessN n q) z1) (h2 : SizeIs (aloneN n q) z2) (h3 : SizeIs n z3) : z1 + z2 = z3 + 3 := by
  have hc := (H.lf hl).1
  obtain ⟨k, hk⟩ : ∃ k, n.keys[q]? = some k := ⟨_, List.getElem?_eq_getElem hq⟩
  obtain ⟨c, hcq⟩ : ∃ k, n.cells[q]? = some k := ⟨_, List.getElem?_eq_getElem (by omega)⟩
  have o1 := ok_less H hl hq
  have o2 := ok_alone H hl hq
  rcases h1 with ⟨_, rfl⟩ | ⟨h, _⟩
  · rcases h2 with ⟨_, rfl⟩ | ⟨h, _⟩
    · rcases h3 with ⟨_, rfl⟩ | ⟨h, _⟩
      · rw [encN_sum rfl (o1.lf rfl).1, encN_sum rfl (o2.lf rfl).1, encN_sum hl hc]
        have e0 : (elens n)[q]? = some (elen k c) := by unfold elens; rw [List.getElem?_zipWith, hk, hcq]
        have e1 : elens (lessN n q) = (elens n).take q ++ (elens n).drop (q + 1) := by
          unfold elens
          rw [List.take_zipWith, List.drop_zipWith, List.zipWith_append (by simp; omega)]
        have e2 : elens (aloneN n q) = [elen k c] := by
          unfold elens
          dsimp only
          rw [one_of hk, one_of hcq]; rfl
        rw [e1, e2, sum_split (elens n) e0, List.sum_append]
        simp; omega
      · exact absurd H h
    · exact absurd o2 h
  · exact absurd o1 h
theorem take_lenF {α : Type} {f : α → List Value} {m : Nat} (hf : ∀ a, (f a).length = m) {l : List α} {q : Nat} (h : q ≤ l.length) : ((l.flatMap f).drop 0).take (q * m) = (l.take q).flatMap f ∧ ((l.take q).flatMap f).length = q * m := by
  have h2 : ((l.take q).flatMap f).length = q * m := by rw [flat_length hf, List.length_take, Nat.min_eq_left h]
  refine ⟨?_, h2⟩
  rw [List.drop_zero]
  have h3 : l.flatMap f = (l.take q).flatMap f ++ (l.drop q).flatMap f := by rw [← List.flatMap_append, List.take_append_drop]
  rw [h3, List.take_append_of_le_length (by omega), List.take_of_length_le (by omega)]
theorem drop_lenF {α : Type} {f : α → List Value} {m : Nat} (hf : ∀ a, (f a).length = m) {l : List α} {q : Nat} (h : q ≤ l.length) : ((l.flatMap f).drop (q * m)).take ((l.length - q) * m) = (l.drop q).flatMap f ∧ ((l.drop q).flatMap f).length = (l.length - q) * m := by
  have h2 : ((l.drop q).flatMap f).length = (l.length - q) * m := by rw [flat_length hf, List.length_drop]
  refine ⟨?_, h2⟩
  have h3 : l.flatMap f = (l.take q).flatMap f ++ (l.drop q).flatMap f := by rw [← List.flatMap_append, List.take_append_drop]
  have h4 : ((l.take q).flatMap f).length = q * m := by rw [flat_length hf, List.length_take, Nat.min_eq_left h]
  rw [h3, List.drop_append_of_le_length (by omega), List.drop_of_length_le (by omega), List.nil_append, List.take_of_length_le (by omega)]
set_option linter.unusedSimpArgs false
set_option linter.unusedVariables false
attribute [local irreducible] numOf fixedL bytesOf strOf strEq strLt sfrom padL unvar unfixed varL encTo entN hdrN encN
theorem pick_q (key : Int) {n : Nat} (h0 : 0 < n) (h : n ≤ 300) : ∃ q : Nat, (q : Int) = IntKind.i64.wrap ((IntKind.u64.wrap key).tmod (n : Int)) ∧ q < n := by
  have h1 : 0 ≤ IntKind.u64.wrap key := by rw [IntKind.wrap_u64]; omega
  have h2 : (IntKind.u64.wrap key).tmod (n : Int) = (IntKind.u64.wrap key) % (n : Int) := Int.tmod_eq_emod_of_nonneg h1
  have h3 := Int.emod_lt_of_pos (IntKind.u64.wrap key) (show (0 : Int) < n by omega)
  have h4 := Int.emod_nonneg (IntKind.u64.wrap key) (show (n : Int) ≠ 0 by omega)
  rw [h2]
  generalize (IntKind.u64.wrap key) % (n : Int) = x at *
  refine ⟨x.toNat, ?_, by omega⟩
  rw [← w64 (by omega) (by omega)]; omega
theorem take_lenM {α : Type} {f : α → Value} {l : List α} {q : Nat} (h : q ≤ l.length) : ((l.map f).drop 0).take (q * 1) = (l.take q).map f ∧ ((l.take q).map f).length = q * 1 :=
  ⟨by rw [List.drop_zero, Nat.mul_one, List.map_take], by rw [List.length_map, List.length_take, Nat.min_eq_left h, Nat.mul_one]⟩
theorem drop_lenM {α : Type} {f : α → Value} {l : List α} {q : Nat} : ((l.map f).drop (0 + (q + 1) * 1)).take ((l.length - (q + 1)) * 1) = (l.drop (q + 1)).map f ∧ ((l.drop (q + 1)).map f).length = (l.length - (q + 1)) * 1 :=
  ⟨by rw [Nat.zero_add, Nat.mul_one, Nat.mul_one, List.map_drop, List.take_of_length_le (by simp)], by simp⟩
theorem drop_lenF' {α : Type} {f : α → List Value} {m : Nat} (hf : ∀ a, (f a).length = m) {l : List α} {q : Nat} (h : q ≤ l.length) : ((l.flatMap f).drop (0 + q * m)).take ((l.length - q) * m) = (l.drop q).flatMap f ∧ ((l.drop q).flatMap f).length = (l.length - q) * m := by
  rw [Nat.zero_add]; exact drop_lenF hf h
theorem less_m {α : Type} {f : α → Value} {l : List α} {q : Nat} : ([] ++ (l.take q).map f) ++ (l.drop (q + 1)).map f = (l.take q ++ l.drop (q + 1)).map f := by simp
theorem less_mn {α : Type} {f : α → Value} {l : List α} {q : Nat} (h : l.length ≤ q + 1) : ([] ++ (l.take q).map f) ++ [] = (l.take q ++ l.drop (q + 1)).map f := by rw [List.drop_eq_nil_of_le h]; simp
theorem less_f {α : Type} {f : α → List Value} {l : List α} {q : Nat} : ([] ++ (l.take q).flatMap f) ++ (l.drop (q + 1)).flatMap f = (l.take q ++ l.drop (q + 1)).flatMap f := by simp
theorem less_fn {α : Type} {f : α → List Value} {l : List α} {q : Nat} (h : l.length ≤ q + 1) : ([] ++ (l.take q).flatMap f) ++ [] = (l.take q ++ l.drop (q + 1)).flatMap f := by rw [List.drop_eq_nil_of_le h]; simp
theorem oneAll_map' {α : Type} {f : α → Value} (h : ∀ a, (f a).oneCell' = true) (l : List α) : oneAll (l.map f) = true := by
  unfold oneAll; rw [List.all_map, List.all_eq_true]; intro a _; exact h a
theorem oneAll_flat {α : Type} {f : α → List Value} (h : ∀ a, oneAll (f a) = true) (l : List α) : oneAll (l.flatMap f) = true := by
  unfold oneAll; rw [List.all_flatMap, List.all_eq_true]; intro a _; exact h a
theorem call_see {P : Program} {f : FuncId} {args0 args : List Value} {h0 h : HP} {n0 n : Nat} {α : Type} {R : α → Prop} {vT : α → Value} {K : Value → HP → Nat → Prop} (C : CallOb P f args0 h0 n0 (fun v hh m => ∃ x, R x ∧ v = vT x ∧ hh = [] ∧ m = n0)) (hflat : ∀ x, flatR (vT x) = true)
    (see : ∀ F B w0 m w cs, HRel F B w0 m h n w → LR (VR m) args cs → ∃ m0, HRel (fun _ => False) w.heap.size w m0 h0 n0 w ∧ LR (VR m0) args0 cs) (hk : ∀ x, R x → K (vT x) h n) : CallOb P f args h n K :=
  ⟨C.fn, fun F B w0 m w cs H ha => by
    obtain ⟨m0, H0, ha0⟩ := see F B w0 m w cs H ha
    refine (C.run _ _ _ m0 w cs H0 ha0).mono ?_
    rintro e w' ⟨m', v, c, h', n', he, hle, hv, H', x, hx, rfl, rfl, rfl⟩
    exact ⟨m, vT x, c, h, n, he, BM.le_refl m, (VR.flat (hflat x)).2 ((VR.flat (hflat x)).1 hv), H.later H'.keep.below, hk x hx⟩⟩
theorem slc_part {F : Nat → Prop} {B : Nat} {w0 : World} {m : BM} {h : HP} {n : Nat} {w : World} (H : HRel F B w0 m h n w) {i : Nat} {cs : List Value} (e : lkH h i = some (.lview cs)) (hfl : ∀ u ∈ cs, flat1 u = true) {o len cap : Nat} {c : Value} (hv : V0 m (.slice (some ⟨i, o, some 0⟩) len cap) c) (hpos : 0 < len)
    {sub : List Value} (hsub : ∀ j u, sub[j]? = some u → cs[o + j]? = some u) : SlcAt w c len cap sub := by
  obtain ⟨g, s, hm, h0⟩ := hv
  rcases h0 with ⟨_, h1, _⟩ | ⟨hs, rfl⟩
  · omega
  · rcases H.at e hm with ⟨h1, _⟩ | ⟨hlt, _, l, hl, hc⟩
    · exact absurd h1 hs
    · have hl2 : l = cs := LR.eq_of (fun u hu c hc => (V1.flat (hfl u hu)).1 hc) hl
      subst hl2
      refine .inr ⟨_, rfl, rfl, hlt, fun j u hj => ?_⟩
      rw [add_lit']
      have := hc (o + j) u (hsub j u hj)
      rw [show o + sh s + j = sh s + (o + j) by omega]
      exact this
theorem V0.none {m : BM} {c : Value} (h : V0 m (.slice none 0 0) c) : c = .slice none 0 0 := (V0.flat rfl).1 h
/-- The size of the part of a node that a row of its own slices shows. -/
theorem size_alone_c (n : Nd) (q d1 d2 : Nat) {o1 o2 k1 k2 : Nat} {h : HP} {m : Nat} {K : Value → HP → Nat → Prop} (ho1 : q = o1) (ho2 : q * 3 = o2) (hk1 : 1 = k1) (hk2 : 1 = k2) (hq : q < n.keys.length) (hq2 : q < n.cells.length) (e1 : lkH h 0 = some (.lview (n.keys.map kv))) (e2 : lkH h 1 = some (.lview (n.cells.flatMap celv)))
    (hk : ∀ z : Int, SizeIs (aloneN n q) z → K (iv z) h m) :
    CallOb Try.prog 16 [.agg #[.bool true, .slice (some ⟨0, o1, some 0⟩) k1 d1, .slice (some ⟨1, o2, some 0⟩) k2 d2, .slice none 0 0]] h m K := by
  subst ho1 ho2 hk1 hk2
  obtain ⟨ky, hky⟩ : ∃ k, n.keys[q]? = some k := ⟨_, List.getElem?_eq_getElem hq⟩
  obtain ⟨cy, hcy⟩ : ∃ k, n.cells[q]? = some k := ⟨_, List.getElem?_eq_getElem hq2⟩
  have hl1 : (aloneN n q).keys.length = 1 := by dsimp only; rw [one_of hky]; rfl
  have hl2 : (aloneN n q).cells.length = 1 := by dsimp only; rw [one_of hcy]; rfl
  refine call_see (R := SizeIs (aloneN n q)) (vT := fun z : Int => iv z) (size_node_c (aloneN n q) d1 d2 0 (by omega) (by omega) (by dsimp only; decide)) (fun _ => rfl) (fun F B w0 m w cs H ha => ?_) hk
  match cs, ha with
  | [c], ⟨hc, _⟩ =>
    obtain ⟨l, hl, rfl⟩ := hc.agg
    match l, hl with
    | [x0, x1, x2, x3], ⟨h0, h1, h2, h3, _⟩ =>
      have hx0 : x0 = .bool true := (V0.flat rfl).1 h0
      have hx3 := V0.none h3
      subst hx0 hx3
      have S1 : SlcAt w x1 (aloneN n q).keys.length d1 ((aloneN n q).keys.flatMap (fun y : ByteArray => [.string y])) := by
        rw [hl1]
        refine slc_part H e1 (flat_map (fun _ => rfl) _) h1 (by omega) (fun j u hj => ?_)
        dsimp only at hj
        rw [one_of hky] at hj
        match j, hj with
        | 0, hj => rw [Nat.add_zero, List.getElem?_map, hky]; simpa using hj
      have S2 : SlcAt w x2 (aloneN n q).cells.length d2 ((aloneN n q).cells.flatMap (fun y : Cel => [.int .i64 y.1, .string y.2.1, .int .i64 y.2.2])) := by
        rw [hl2]
        refine slc_part H e2 (flat_bindF (f := celv) (fun _ => rfl) _) h2 (by omega) (fun j u hj => ?_)
        dsimp only at hj
        rw [one_of hcy] at hj
        have hj3 : j < 3 := by have := (List.getElem?_eq_some_iff.1 hj).1; simpa using this
        rw [flat_getElem (f := celv) (n := 3) (fun _ => rfl) n.cells q j cy hcy hj3]
        simpa [celv] using hj
      have S3 : SlcAt w (.slice none 0 0) ([] : List Int).length 0 (([] : List Int).flatMap (fun y : Int => [.int .i64 y])) := .inl ⟨none, rfl, rfl, rfl, rfl⟩
      obtain ⟨m0, H0, hv⟩ := see_node (lf := true) S1 S2 S3
      exact ⟨m0, H0, hv, trivial⟩
set_option maxHeartbeats 1000000 in
set_option maxRecDepth 100000 in
theorem nodeSums_c (n : Nd) (key : Int) (c1 c2 c3 : Nat) (l1 : n.keys.length < 9223372036854775000) (l2 : n.cells.length < 9223372036854775000) (l3 : n.kids.length < 9223372036854775000) (q1 : n.keys.length ≤ c1) (q2 : n.cells.length ≤ c2) :
    CallOb Try.prog 7 [.agg (ndVs n 0 1 2 c1 c2 c3).toArray, .int .i64 key] (ndH n 0 1 2) 3 (fun v hh m => ∃ z : Bool, z = true ∧ v = .bool z ∧ hh = [] ∧ m = 3) := by
  refine call_spec tabOk mixed Try.call7 Try.func7 rfl [(7, [(0, true), (1, true), (2, true), (3, true), (4, true), (5, true), (1006, false), (7, true), (1008, false)]), (8, [(0, true), (1, true), (2, true), (3, true), (4, true), (5, true), (6, true), (1007, false), (8, true), (1009, false)]), (9, [(0, true), (1, true), (2, true), (3, true), (4, true), (5, true), (1006, false), (7, true), (1008, false)]), (10, [(0, true), (1, true), (2, true), (3, true), (4, true), (5, true), (6, true), (1007, false), (8, true), (1009, false)]), (11, [(0, true), (1, true), (2, true), (3, true), (4, true), (5, true), (6, true), (7, true), (8, true), (9, true), (10, true), (11, true), (12, true), (13, false), (1014, false)]), (12, [(0, true), (2, true), (5, true), (1, false), (3, false), (4, true), (1006, false), (7, true), (8, true), (9, true)])] (fun z : Bool => z = true) (fun z => .bool z) (fun _ => []) (fun _ => 3) ?_ ?_
  · exact (Nat.le_of_ble_eq_true rfl)
  (repeat' ((try (conv => whnf)); first | (exfalso; with_reducible exact tf_no h0 hb) | (exfalso; with_reducible exact se_no hb) | (exfalso; with_reducible exact be_no hb) | ((guard_target =~ CallOb _ 8 _ _ _ _; refine call_q (awake_c) [] (by (repeat' (first | exact True.intro | (with_reducible exact rfl) | (guard_target =~ @Eq Nat _ _; first | exact rfl | omega) | (guard_target =~ List.map _ _ = []; exact rfl) | (first | exact congrArg (Value.int _) (by (try dsimp only); omega) | (guard_target =~ @Eq (List Value) _ _; exact rfl) | exact covL_of rfl (flat_bindF (f := celv) (fun _ => rfl) _) | exact covL_of rfl (flat_map (f := kv) (fun _ => rfl) _)) | (exact congrArg (Value.int _) (by omega)) | (exact covL_flat (flat_map (fun _ => rfl) _)) | (exact covL_flat flat_nil) | (refine covP_all ?_) | (refine covL_each ?_) | (refine ⟨?_, ?_⟩) | ((conv => whnf); (first | exact True.intro | (with_reducible exact rfl) | (guard_target =~ @Eq Nat _ _; first | exact rfl | omega) | (guard_target =~ List.map _ _ = []; exact rfl) | (first | exact congrArg (Value.int _) (by (try dsimp only); omega) | (guard_target =~ @Eq (List Value) _ _; exact rfl) | exact covL_of rfl (flat_bindF (f := celv) (fun _ => rfl) _) | exact covL_of rfl (flat_map (f := kv) (fun _ => rfl) _)) | (exact congrArg (Value.int _) (by omega)) | (exact covL_flat (flat_map (fun _ => rfl) _)) | (exact covL_flat flat_nil) | (refine covP_all ?_) | (refine covL_each ?_) | (refine ⟨?_, ?_⟩) | done)))); (first | done | fail)) (by rfl) (by rfl) (by rfl) (fun v h1 n1 hp => ?_); obtain ⟨z0, h0, rfl, rfl, rfl⟩ := hp; refine ⟨_, _, _, (by refine ⟨?_, ?_, ?_⟩; (first | apply rR_tuple | apply rR_one rfl | exact rfl); all_goals (repeat' (first | exact relH_nil | exact r1_flat rfl | exact r0_flat rfl | exact rl_nil | exact wo_nil | exact bk_old rfl | exact bk_new rfl | exact bk_nil rfl | apply rl_cons | (exact relL_flat (flat_bindF (f := celv) (fun _ => rfl) _)) | exact relL_flat (flat_map (fun _ => rfl) _) | exact relL_flat flat_nil | apply relL_to | apply rn_lst | apply rn_own | apply rn_mp | apply rn_row | apply relH_view rfl | apply relH_lview rfl | apply wo_keep rfl | apply wo_drop rfl | apply r1_agg | apply rn_ptr | apply rn_slice | apply rn_iface | apply rn_map | apply rn_ifacem | apply r0_map | apply r0_ifacem | apply r0_ptr | apply r0_slice | apply r0_iface)); (first | done | fail)), ?_⟩); dsimp only [Nat.reduceAdd]) | ((guard_target =~ CallOb _ 9 _ _ _ _; refine call_q (great_c n c1 c2 c3 (by omega) (by omega) (by omega)) [(0, some 0), (1, some 1), (2, some 2)] (by (repeat' (first | exact True.intro | (with_reducible exact rfl) | (guard_target =~ @Eq Nat _ _; first | exact rfl | omega) | (guard_target =~ List.map _ _ = []; exact rfl) | (first | exact congrArg (Value.int _) (by (try dsimp only); omega) | (guard_target =~ @Eq (List Value) _ _; exact rfl) | exact covL_of rfl (flat_bindF (f := celv) (fun _ => rfl) _) | exact covL_of rfl (flat_map (f := kv) (fun _ => rfl) _)) | (exact congrArg (Value.int _) (by omega)) | (exact covL_flat (flat_map (fun _ => rfl) _)) | (exact covL_flat flat_nil) | (refine covP_all ?_) | (refine covL_each ?_) | (refine ⟨?_, ?_⟩) | ((conv => whnf); (first | exact True.intro | (with_reducible exact rfl) | (guard_target =~ @Eq Nat _ _; first | exact rfl | omega) | (guard_target =~ List.map _ _ = []; exact rfl) | (first | exact congrArg (Value.int _) (by (try dsimp only); omega) | (guard_target =~ @Eq (List Value) _ _; exact rfl) | exact covL_of rfl (flat_bindF (f := celv) (fun _ => rfl) _) | exact covL_of rfl (flat_map (f := kv) (fun _ => rfl) _)) | (exact congrArg (Value.int _) (by omega)) | (exact covL_flat (flat_map (fun _ => rfl) _)) | (exact covL_flat flat_nil) | (refine covP_all ?_) | (refine covL_each ?_) | (refine ⟨?_, ?_⟩) | done)))); (first | done | fail)) (by rfl) (by rfl) (by rfl) (fun v h1 n1 hp => ?_); obtain ⟨zg, hgr, rfl, rfl, rfl⟩ := hp; refine ⟨_, _, _, (by refine ⟨?_, ?_, ?_⟩; (first | apply rR_tuple | apply rR_one rfl | exact rfl); all_goals (repeat' (first | exact relH_nil | exact r1_flat rfl | exact r0_flat rfl | exact rl_nil | exact wo_nil | exact bk_old rfl | exact bk_new rfl | exact bk_nil rfl | apply rl_cons | (exact relL_flat (flat_bindF (f := celv) (fun _ => rfl) _)) | exact relL_flat (flat_map (fun _ => rfl) _) | exact relL_flat flat_nil | apply relL_to | apply rn_lst | apply rn_own | apply rn_mp | apply rn_row | apply relH_view rfl | apply relH_lview rfl | apply wo_keep rfl | apply wo_drop rfl | apply r1_agg | apply rn_ptr | apply rn_slice | apply rn_iface | apply rn_map | apply rn_ifacem | apply r0_map | apply r0_ifacem | apply r0_ptr | apply r0_slice | apply r0_iface)); (first | done | fail)), ?_⟩); dsimp only [Nat.reduceAdd]) | ((have hsm := hgr (by assumption); unfold SmallN at hsm); (guard_target =~ CallOb _ 14 _ _ _ _; refine call_q (good_c n c1 c2 c3 (by omega) (by omega) (by omega)) [(0, some 0), (1, some 1), (2, some 2)] (by (repeat' (first | exact True.intro | (with_reducible exact rfl) | (guard_target =~ @Eq Nat _ _; first | exact rfl | omega) | (guard_target =~ List.map _ _ = []; exact rfl) | (first | exact congrArg (Value.int _) (by (try dsimp only); omega) | (guard_target =~ @Eq (List Value) _ _; exact rfl) | exact covL_of rfl (flat_bindF (f := celv) (fun _ => rfl) _) | exact covL_of rfl (flat_map (f := kv) (fun _ => rfl) _)) | (exact congrArg (Value.int _) (by omega)) | (exact covL_flat (flat_map (fun _ => rfl) _)) | (exact covL_flat flat_nil) | (refine covP_all ?_) | (refine covL_each ?_) | (refine ⟨?_, ?_⟩) | ((conv => whnf); (first | exact True.intro | (with_reducible exact rfl) | (guard_target =~ @Eq Nat _ _; first | exact rfl | omega) | (guard_target =~ List.map _ _ = []; exact rfl) | (first | exact congrArg (Value.int _) (by (try dsimp only); omega) | (guard_target =~ @Eq (List Value) _ _; exact rfl) | exact covL_of rfl (flat_bindF (f := celv) (fun _ => rfl) _) | exact covL_of rfl (flat_map (f := kv) (fun _ => rfl) _)) | (exact congrArg (Value.int _) (by omega)) | (exact covL_flat (flat_map (fun _ => rfl) _)) | (exact covL_flat flat_nil) | (refine covP_all ?_) | (refine covL_each ?_) | (refine ⟨?_, ?_⟩) | done)))); (first | done | fail)) (by rfl) (by rfl) (by rfl) (fun v h1 n1 hp => ?_); obtain ⟨z5, h5, rfl, rfl, rfl⟩ := hp; refine ⟨_, _, _, (by refine ⟨?_, ?_, ?_⟩; (first | apply rR_tuple | apply rR_one rfl | exact rfl); all_goals (repeat' (first | exact relH_nil | exact r1_flat rfl | exact r0_flat rfl | exact rl_nil | exact wo_nil | exact bk_old rfl | exact bk_new rfl | exact bk_nil rfl | apply rl_cons | (exact relL_flat (flat_bindF (f := celv) (fun _ => rfl) _)) | exact relL_flat (flat_map (fun _ => rfl) _) | exact relL_flat flat_nil | apply relL_to | apply rn_lst | apply rn_own | apply rn_mp | apply rn_row | apply relH_view rfl | apply relH_lview rfl | apply wo_keep rfl | apply wo_drop rfl | apply r1_agg | apply rn_ptr | apply rn_slice | apply rn_iface | apply rn_map | apply rn_ifacem | apply r0_map | apply r0_ifacem | apply r0_ptr | apply r0_slice | apply r0_iface)); (first | done | fail)), ?_⟩); dsimp only [Nat.reduceAdd]) | (exfalso; have hh := hlc; omega) | (guard_target =~ CallOb _ 16 _ _ _ _; refine size_alone_c n q _ _ (by omega) (by omega) (by omega) (by omega) hql (by omega) (by rfl) (by rfl) (fun z2 hz2 => ?_)) | ((guard_target =~ CallOb _ 16 _ _ _ _; refine call_q (size_node_c n c1 c2 c3 (by omega) (by omega) (by omega)) [(0, some 0), (1, some 1), (2, some 2)] (by (repeat' (first | exact True.intro | (with_reducible exact rfl) | (guard_target =~ @Eq Nat _ _; first | exact rfl | omega) | (guard_target =~ List.map _ _ = []; exact rfl) | (first | (guard_target =~ @Eq Nat _ _; simp only [List.length_append, List.length_take, List.length_drop]; omega) | exact congrArg (Value.int _) (by (try dsimp only); omega) | (guard_target =~ @Eq (List Value) _ _; exact rfl) | exact covL_of rfl (flat_bindF (f := celv) (fun _ => rfl) _) | exact covL_of less_m (flat_map (f := kv) (fun _ => rfl) _) | exact covL_of (less_mn (by omega)) (flat_map (f := kv) (fun _ => rfl) _) | exact covL_of less_f (flat_bindF (f := celv) (fun _ => rfl) _) | exact covL_of (less_fn (by omega)) (flat_bindF (f := celv) (fun _ => rfl) _)) | (exact congrArg (Value.int _) (by omega)) | (exact covL_flat (flat_map (fun _ => rfl) _)) | (exact covL_flat flat_nil) | (refine covP_all ?_) | (refine covL_each ?_) | (refine ⟨?_, ?_⟩) | ((conv => whnf); (first | exact True.intro | (with_reducible exact rfl) | (guard_target =~ @Eq Nat _ _; first | exact rfl | omega) | (guard_target =~ List.map _ _ = []; exact rfl) | (first | (guard_target =~ @Eq Nat _ _; simp only [List.length_append, List.length_take, List.length_drop]; omega) | exact congrArg (Value.int _) (by (try dsimp only); omega) | (guard_target =~ @Eq (List Value) _ _; exact rfl) | exact covL_of rfl (flat_bindF (f := celv) (fun _ => rfl) _) | exact covL_of less_m (flat_map (f := kv) (fun _ => rfl) _) | exact covL_of (less_mn (by omega)) (flat_map (f := kv) (fun _ => rfl) _) | exact covL_of less_f (flat_bindF (f := celv) (fun _ => rfl) _) | exact covL_of (less_fn (by omega)) (flat_bindF (f := celv) (fun _ => rfl) _)) | (exact congrArg (Value.int _) (by omega)) | (exact covL_flat (flat_map (fun _ => rfl) _)) | (exact covL_flat flat_nil) | (refine covP_all ?_) | (refine covL_each ?_) | (refine ⟨?_, ?_⟩) | done)))); (first | done | fail)) (by rfl) (by rfl) (by rfl) (fun v h1 n1 hp => ?_); obtain ⟨z3, hz3, rfl, rfl, rfl⟩ := hp; refine ⟨_, _, _, (by refine ⟨?_, ?_, ?_⟩; (first | apply rR_tuple | apply rR_one rfl | exact rfl); all_goals (repeat' (first | exact relH_nil | exact r1_flat rfl | exact r0_flat rfl | exact rl_nil | exact wo_nil | exact bk_old rfl | exact bk_new rfl | exact bk_nil rfl | apply rl_cons | (exact relL_flat (flat_bindF (f := celv) (fun _ => rfl) _)) | exact relL_flat (flat_map (fun _ => rfl) _) | exact relL_flat flat_nil | apply relL_to | apply rn_lst | apply rn_own | apply rn_mp | apply rn_row | apply relH_view rfl | apply relH_lview rfl | apply wo_keep rfl | apply wo_drop rfl | apply r1_agg | apply rn_ptr | apply rn_slice | apply rn_iface | apply rn_map | apply rn_ifacem | apply r0_map | apply r0_ifacem | apply r0_ptr | apply r0_slice | apply r0_iface)); (first | done | fail)), ?_⟩); dsimp only [Nat.reduceAdd]) | ((guard_target =~ CallOb _ 16 _ _ _ _; refine call_q (size_node_c (lessN n q) _ _ 0 (by simp; omega) (by simp; omega) (by simp)) [(0, some _), (1, some _), (2, none)] (by (repeat' (first | exact True.intro | (with_reducible exact rfl) | (guard_target =~ @Eq Nat _ _; first | exact rfl | omega) | (guard_target =~ List.map _ _ = []; exact rfl) | (first | (guard_target =~ @Eq Nat _ _; simp only [List.length_append, List.length_take, List.length_drop]; omega) | exact congrArg (Value.int _) (by (try dsimp only); omega) | (guard_target =~ @Eq (List Value) _ _; exact rfl) | exact covL_of rfl (flat_bindF (f := celv) (fun _ => rfl) _) | exact covL_of less_m (flat_map (f := kv) (fun _ => rfl) _) | exact covL_of (less_mn (by omega)) (flat_map (f := kv) (fun _ => rfl) _) | exact covL_of less_f (flat_bindF (f := celv) (fun _ => rfl) _) | exact covL_of (less_fn (by omega)) (flat_bindF (f := celv) (fun _ => rfl) _)) | (exact congrArg (Value.int _) (by omega)) | (exact covL_flat (flat_map (fun _ => rfl) _)) | (exact covL_flat flat_nil) | (refine covP_all ?_) | (refine covL_each ?_) | (refine ⟨?_, ?_⟩) | ((conv => whnf); (first | exact True.intro | (with_reducible exact rfl) | (guard_target =~ @Eq Nat _ _; first | exact rfl | omega) | (guard_target =~ List.map _ _ = []; exact rfl) | (first | (guard_target =~ @Eq Nat _ _; simp only [List.length_append, List.length_take, List.length_drop]; omega) | exact congrArg (Value.int _) (by (try dsimp only); omega) | (guard_target =~ @Eq (List Value) _ _; exact rfl) | exact covL_of rfl (flat_bindF (f := celv) (fun _ => rfl) _) | exact covL_of less_m (flat_map (f := kv) (fun _ => rfl) _) | exact covL_of (less_mn (by omega)) (flat_map (f := kv) (fun _ => rfl) _) | exact covL_of less_f (flat_bindF (f := celv) (fun _ => rfl) _) | exact covL_of (less_fn (by omega)) (flat_bindF (f := celv) (fun _ => rfl) _)) | (exact congrArg (Value.int _) (by omega)) | (exact covL_flat (flat_map (fun _ => rfl) _)) | (exact covL_flat flat_nil) | (refine covP_all ?_) | (refine covL_each ?_) | (refine ⟨?_, ?_⟩) | done)))); (first | done | fail)) (by rfl) (by rfl) (by rfl) (fun v h1 n1 hp => ?_); obtain ⟨z1, hz1, rfl, rfl, rfl⟩ := hp; refine ⟨_, _, _, (by refine ⟨?_, ?_, ?_⟩; (first | apply rR_tuple | apply rR_one rfl | exact rfl); all_goals (repeat' (first | exact relH_nil | exact r1_flat rfl | exact r0_flat rfl | exact rl_nil | exact wo_nil | exact bk_old rfl | exact bk_new rfl | exact bk_nil rfl | apply rl_cons | (exact relL_flat (flat_bindF (f := celv) (fun _ => rfl) _)) | exact relL_flat (flat_map (fun _ => rfl) _) | exact relL_flat flat_nil | apply relL_to | apply rn_lst | apply rn_own | apply rn_mp | apply rn_row | apply relH_view rfl | apply relH_lview rfl | apply wo_keep rfl | apply wo_drop rfl | apply r1_agg | apply rn_ptr | apply rn_slice | apply rn_iface | apply rn_map | apply rn_ifacem | apply r0_map | apply r0_ifacem | apply r0_ptr | apply r0_slice | apply r0_iface)); (first | done | fail)), ?_⟩); dsimp only [Nat.reduceAdd]) | (refine ⟨q, hq, ?_⟩) | (guard_target =~ ∃ x : Nat, ((x : Int) = IntKind.i64.wrap _ ∧ _); obtain ⟨q, hq, hql⟩ := pick_q key (n := n.keys.length) (by omega) (by omega); have hcl := ((h5.1 (by assumption)).lf (by assumption)).1; refine ⟨q, hq, ?_⟩) | (refine onS_in (subL_in (take_lenM (f := kv) (l := n.keys) (q := q) (by omega)).1 (take_lenM (f := kv) (l := n.keys) (q := q) (by omega)).2 (fun _ => Nat.zero_le _)) ?_) | (refine onS_in (subL_in (take_lenF (f := celv) (m := 3) (fun _ => rfl) (l := n.cells) (q := q) (by omega)).1 (take_lenF (f := celv) (m := 3) (fun _ => rfl) (l := n.cells) (q := q) (by omega)).2 (fun _ => Nat.zero_le _)) ?_) | (refine onS_in (subL_in (drop_lenM (f := kv) (l := n.keys) (q := q)).1 (drop_lenM (f := kv) (l := n.keys) (q := q)).2 (fun _ => show 0 + (q + 1) * 1 ≤ (n.keys.map kv).length by rw [List.length_map]; omega)) ?_) | (refine onS_in (subL_in (drop_lenF' (f := celv) (m := 3) (fun _ => rfl) (l := n.cells) (q := q + 1) (by omega)).1 (drop_lenF' (f := celv) (m := 3) (fun _ => rfl) (l := n.cells) (q := q + 1) (by omega)).2 (fun _ => show 0 + (q + 1) * 3 ≤ (n.cells.flatMap celv).length by rw [flat_length (f := celv) (n := 3) (fun _ => rfl)]; omega)) ?_) | (guard_target =~ (List.length _ = _) ∧ _; refine ⟨by (simp only [List.length_append, List.length_nil, List.length_map, List.length_take, List.length_drop, flat_length (f := celv) (n := 3) (fun _ => rfl)]; omega), ?_⟩) | (refine chk_in (oneAll_map' (fun _ => rfl) _) ?_) | (refine chk_in (oneAll_flat (fun _ => rfl) _) ?_) | (refine ⟨q + 1, by omega, by omega, by omega, fun hlc => ?_, fun hlc => ?_⟩) | (refine cell_in1 (i := 0) (by omega) (fun y hy => ?_)) | (refine cell_at1 (by assumption) ?_) | (refine cell_in1 (by omega) (fun y hy => ?_)) | (with_reducible refine chk_in (Nat.ble_eq_true_of_le (by omega)) ?_) | (with_reducible refine ifB_in ?_ ?_ <;> intro hb <;> (try simp only [decide_eq_true_eq, decide_eq_false_iff_not, Int.not_lt, Int.not_le, ne_eq, Decidable.not_not, Bool.not_eq_true', Bool.not_eq_false', gt_iff_lt, ge_iff_le] at hb) <;> (try (exfalso; omega))) | (with_reducible refine ⟨_, w64b _, ?_⟩) | (with_reducible refine ⟨_, w64 (by omega) (by omega), ?_⟩) | (with_reducible refine ⟨_, wu64 (by omega) (by omega), ?_⟩) | (with_reducible refine ⟨_, wu8 (by omega) (by omega), ?_⟩) | (with_reducible refine ⟨_, w64 (by (simp only [size_sfrom, ByteArray.size_extract, ByteArray.size_append, strOf_size, fixedL_length, lit_size, List.size_toArray, List.length_cons, List.length_nil, List.length_append, List.length_replicate]; omega)) (by (simp only [size_sfrom, ByteArray.size_extract, ByteArray.size_append, strOf_size, fixedL_length, lit_size, List.size_toArray, List.length_cons, List.length_nil, List.length_append, List.length_replicate]; omega)), ?_⟩) | (with_reducible refine ⟨_, rfl, ?_⟩) | (with_reducible refine ⟨rfl, ?_⟩) | (intro cap) | (with_reducible refine ⟨trivial, ?_⟩) | (guard_target =~ (planChk _ _ = true) ∧ _; refine ⟨by kernel_rfl, ?_⟩) | (guard_target =~ (_ ∧ _) ∧ _; refine ⟨by ((repeat (first | exact trivial | refine ⟨rfl, ?_⟩)); (first | done | fail)), ?_⟩) | (refine ⟨by omega, ?_⟩) | (refine ⟨by (simp only [size_sfrom, ByteArray.size_extract, ByteArray.size_append, strOf_size, fixedL_length, lit_size, List.size_toArray, List.length_cons, List.length_nil, List.length_append, List.length_replicate]; omega), ?_⟩) | (refine ⟨0, rfl, ?_⟩) | (refine ⟨1, rfl, ?_⟩) | (refine ⟨2, rfl, ?_⟩) | (refine ⟨3, rfl, ?_⟩) | (refine ⟨4, rfl, ?_⟩) | (refine ⟨5, rfl, ?_⟩) | (refine cell_at1 (by assumption) ?_) | (refine cell_in1 (by omega) (fun x hx => ?_)) | fail)) <;> (try (conv => whnf))
  all_goals ((refine Ends.go (_) ?_ [] (Fit.q (by (repeat' (first | exact True.intro | (with_reducible exact rfl) | (guard_target =~ @Eq Nat _ _; first | exact rfl | omega) | (guard_target =~ List.map _ _ = []; exact rfl) | (first | (guard_target =~ @Eq Nat _ _; simp only [List.length_append, List.length_take, List.length_drop]; omega) | exact congrArg (Value.int _) (by (try dsimp only); omega) | (guard_target =~ @Eq (List Value) _ _; exact rfl) | exact covL_of rfl (flat_bindF (f := celv) (fun _ => rfl) _) | exact covL_of less_m (flat_map (f := kv) (fun _ => rfl) _) | exact covL_of (less_mn (by omega)) (flat_map (f := kv) (fun _ => rfl) _) | exact covL_of less_f (flat_bindF (f := celv) (fun _ => rfl) _) | exact covL_of (less_fn (by omega)) (flat_bindF (f := celv) (fun _ => rfl) _)) | (exact congrArg (Value.int _) (by omega)) | (exact covL_flat (flat_map (fun _ => rfl) _)) | (exact covL_flat flat_nil) | (refine covP_all ?_) | (refine covL_each ?_) | (refine ⟨?_, ?_⟩) | ((conv => whnf); (first | exact True.intro | (with_reducible exact rfl) | (guard_target =~ @Eq Nat _ _; first | exact rfl | omega) | (guard_target =~ List.map _ _ = []; exact rfl) | (first | (guard_target =~ @Eq Nat _ _; simp only [List.length_append, List.length_take, List.length_drop]; omega) | exact congrArg (Value.int _) (by (try dsimp only); omega) | (guard_target =~ @Eq (List Value) _ _; exact rfl) | exact covL_of rfl (flat_bindF (f := celv) (fun _ => rfl) _) | exact covL_of less_m (flat_map (f := kv) (fun _ => rfl) _) | exact covL_of (less_mn (by omega)) (flat_map (f := kv) (fun _ => rfl) _) | exact covL_of less_f (flat_bindF (f := celv) (fun _ => rfl) _) | exact covL_of (less_fn (by omega)) (flat_bindF (f := celv) (fun _ => rfl) _)) | (exact congrArg (Value.int _) (by omega)) | (exact covL_flat (flat_map (fun _ => rfl) _)) | (exact covL_flat flat_nil) | (refine covP_all ?_) | (refine covL_each ?_) | (refine ⟨?_, ?_⟩) | done)))); (first | done | fail)) (by rfl) (by rfl))); first | rfl | exact decide_eq_true (by rw [sums_all (h5.1 (by assumption)) (by assumption) hql hz1 hz2 hz3]))
namespace nodeSums
theorem walk (lf : Bool) (v1 : Value) (c1 : Nat) (L1 : List ByteArray) (v2 : Value) (c2 : Nat) (L2 : List Cel) (v3 : Value) (c3 : Nat) (L3 : List Int) (key : Int) (w : World)
    (S1 : SlcAt w v1 L1.length c1 (L1.flatMap (fun y : ByteArray => [.string y]))) (q1 : L1.length ≤ c1) (b1 : c1 ≤ 140737488351232) (_w1 : ∀ y ∈ L1, (fun y : ByteArray => y.size ≤ maxLen) y)
    (S2 : SlcAt w v2 L2.length c2 (L2.flatMap (fun y : Int × ByteArray × Int => [.int .i64 y.1, .string y.2.1, .int .i64 y.2.2]))) (q2 : L2.length ≤ c2) (b2 : c2 ≤ 140737488351232) (_w2 : ∀ y ∈ L2, (fun y : Int × ByteArray × Int => (Lit.int .i64 y.1).wf = true ∧ y.2.1.size ≤ maxLen ∧ (Lit.int .i64 y.2.2).wf = true) y)
    (S3 : SlcAt w v3 L3.length c3 (L3.flatMap (fun y : Int => [.int .i64 y]))) (q3 : L3.length ≤ c3) (b3 : c3 ≤ 140737488351232) (_w3 : ∀ y ∈ L3, (fun y : Int => (Lit.int .i64 y).wf = true) y)
    (_k : (Lit.int .i64 key).wf = true) :
    Calls Try.prog 7 #[.agg #[.bool lf, v1, v2, v3], .int .i64 key] w fun e w' => e = .returned (.bool true) ∧ Below w.heap.size w w' := by
  obtain ⟨m, H, hv⟩ := see_node (lf := lf) S1 S2 S3
  exact law_of (cs := [ndT lf v1 v2 v3, .int .i64 key]) (nodeSums_c ⟨lf, L1, L2, L3⟩ key c1 c2 c3 (by dsimp only; omega) (by dsimp only; omega) (by dsimp only; omega) q1 q2) H ⟨hv, VR.same rfl, trivial⟩ (fun v hh m ⟨_, hz, h, _⟩ => by rw [h, hz])
end nodeSums
end Go.Proofs.Ytfjpinifmengcaa
