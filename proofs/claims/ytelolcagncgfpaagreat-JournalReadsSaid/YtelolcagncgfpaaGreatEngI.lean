/- A generator of conditions for a walk, part 9: append, calls, all operations. No program in sight. -/
import Derived.Test.YtelolcagncgfpaaGreatEngOb
import Derived.Lib.AppendStr
import Derived.Lib.AppendZerosOnto
namespace Go.Proofs.YtelolcagncgfpaaGreat
open Go.RowKit
set_option linter.unusedSimpArgs false
set_option linter.unusedVariables false
def oneAll (l : List Value) : Bool := l.all fun v => v.oneCell'
def mslice (i len cap : Nat) : Value := .slice (some ⟨i, 0, some 0⟩) len cap
theorem VR.newM (m : BM) (n g len cap : Nat) : VR (m.add n g) (mslice n len cap) (.slice (some ⟨g, 0, none⟩) len cap) := VR.slc_of (A0.in (.inr ⟨rfl, rfl, rfl⟩) zero_ne_nilS) _ _ _ rfl
theorem VR.nilM (m : BM) (n : Nat) : VR (m.put n 0 nilS) (mslice n 0 0) (.slice none 0 0) := by
 have := VR.slc_nil (m := m.put n 0 nilS) (b := n) (o := 0) (g := 0) (.inr ⟨rfl, rfl, rfl⟩)
 rw [weird_zero] at this
 exact this
theorem VR.nilA (m : BM) (n : Nat) (a : Option Addr) : VR (m.put n (wcode a) nilS) (mslice n 0 0) (.slice a 0 0) := by
 have := VR.slc_nil (m := m.put n (wcode a) nilS) (b := n) (o := 0) (g := wcode a) (.inr ⟨rfl, rfl, rfl⟩)
 rw [weird_code] at this
 exact this
theorem HRel.pushNilA {F : Nat → Prop} {B : Nat} {w0 : World} {m : BM} {h : HP} {n : Nat} {w : World} (H : HRel F B w0 m h n w) (ty : TypeId) (size : Nat) (g : Nat) : HRel F B w0 (m.put n g nilS) ((n, .lst ty size 0 []) :: h) (n + 1) w :=
 H.pushAt (Below.refl _ w) (fun _ hb => absurd rfl hb.1) (.inl ⟨rfl, rfl, rfl⟩)
theorem HRel.pushLst {F : Nat → Prop} {B : Nat} {w0 : World} {m : BM} {h : HP} {n : Nat} {w : World} (H : HRel F B w0 m h n w) (ty : TypeId) (size cap : Nat) {l l' rest : List Value} (hl : LR (V1 m) l l')
 (hs : l.length + rest.length = cap * size) (hc : cap ≤ maxLen) :
 HRel F B w0 (m.add n w.heap.size) ((n, .lst ty size cap l) :: h) (n + 1) (w.alloc (.cells (l' ++ rest).toArray ty)) :=
 H.push ((Below.refl _ w).alloc (Nat.le_refl _) _) (Nat.le_refl _) (.inr ⟨rfl, .inl H.base', hc, l', _, hl.mono fun _ _ => V1.mono (BM.le_add _ _ _), heap_alloc_new w _,
  by simp [hl.length]; omega, by simp, by simp⟩) rfl
theorem run_append_none {P : Program} (w : World) (t ty e : TypeId) (i : TypeInfo) (z : Value) (ht : P.underlying t = some (.slice e)) (hi : P.info? e = some i) (hz : i.zero = some z) (ad : Option Addr)
 (a : Addr) (n c : Nat) (news : List Value) (hl : news.length = n * i.size) (hnews : ∀ j v, news[j]? = some v → w.cell? (a.add j) = some v)
 (h0 : 0 < n) (h63 : (n : Int) ≤ 9223372036854775807) (h48 : n * i.bytes ≤ 281474976710656) :
 (Builtin.append_ #[t, t] ty #[.slice ad 0 0, .slice (some a) n c]).run P w =
  .ok (.slice (some ⟨w.heap.size, 0, none⟩) n (grownCap w n 0 e)) (w.drew.alloc (.cells (news.toArray ++ Builtin.zeroCells z.cells (grownCap w n 0 e - n)) e)) := by
 cases ad with
 | none => exact run_append_nil (P := P) w t ty e i z ht hi hz a n c news hl hnews h0 h63 h48
 | some b =>
  have := run_append_grow (P := P) w t ty e i z ht hi hz b 0 0 [] (by simp) (fun j v h => by simp at h) a n c news hl hnews (by omega) (by rw [Nat.zero_add]; exact h63) (by rw [Nat.zero_add, nextslicecap_zero h0]; exact h48)
  simpa using this
theorem run_append_none_string {P : Program} (w : World) (t u ty e : TypeId) (i : TypeInfo) (z : Value) (ht : P.underlying t = some (.slice e)) (hu : P.underlying u = some .string) (hi : P.info? e = some i) (hz : i.zero = some z) (ad : Option Addr)
 (s : ByteArray) (h0 : 0 < s.size) (h63 : (s.size : Int) ≤ 9223372036854775807) (h48 : s.size * i.bytes ≤ 281474976710656) :
 (Builtin.append_ #[t, u] ty #[.slice ad 0 0, .string s]).run P w =
  .ok (.slice (some ⟨w.heap.size, 0, none⟩) s.size (grownCap w s.size 0 e))
   (w.drew.alloc (.cells (s.data.map (fun b => Value.int .u8 b.toNat) ++ Builtin.zeroCells z.cells (grownCap w s.size 0 e - s.size)) e)) := by
 cases ad with
 | none => exact run_append_nil_string (P := P) w t u ty e i z ht hu hi hz s h0 h63 h48
 | some b =>
  have := Lib.run_append_grow_string (P := P) w t u ty e i z ht hu hi hz b 0 0 [] (by simp) (fun j v h => by simp at h) s (by omega) (by rw [Nat.zero_add]; exact h63) (by rw [Nat.zero_add, nextslicecap_zero h0]; exact h48)
  have e5 : (Lib.strCells s).toArray = s.data.map (fun b => Value.int .u8 b.toNat) := by apply Array.toList_inj.1; simp [Lib.strCells]
  rw [e5] at this
  simpa using this
structure RigSrc (h : HP) (size : Nat) (x : Value) (k : Nat) (news : List Value) : Prop where
 run : ∀ F B w0 m n w cx, HRel F B w0 m h n w → VR m x cx → (k = 0 ∧ news = [] ∧ ∃ a, cx = .slice a 0 0) ∨ ∃ g o c nl, cx = .slice (some ⟨g, o, none⟩) k c ∧ LR (V1 m) news nl ∧ nl.length = k * size ∧ ∀ j v, nl[j]? = some v → w.cell? ((⟨g, o, none⟩ : Addr).add j) = some v
def srcL (h : HP) (size : Nat) (x : Value) (K : Nat → List Value → Prop) : Prop :=
 match x with
 | .slice none 0 0 => K 0 []
 | .slice (some ⟨b, o, q⟩) m c => match isRig q with
  | true => ∃ news, RigSrc h size (.slice (some ⟨b, o, q⟩) m c) m news ∧ K m news
  | false => onS (lkH h b) fun it => onS (subL it.cells o (m * size)) fun news => K m news
 | _ => False
theorem srcL_ok {h : HP} {size : Nat} {x : Value} {K : Nat → List Value → Prop} (hv : srcL h size x K) : ∃ k news, K k news ∧ ∀ F B w0 m n w cx, HRel F B w0 m h n w → VR m x cx →
 (k = 0 ∧ news = [] ∧ ∃ a, cx = .slice a 0 0) ∨ ∃ g o c nl, cx = .slice (some ⟨g, o, none⟩) k c ∧ LR (V1 m) news nl ∧ nl.length = k * size ∧ ∀ j v, nl[j]? = some v → w.cell? ((⟨g, o, none⟩ : Addr).add j) = some v := by
 unfold srcL at hv
 split at hv
 · exact ⟨0, [], hv, fun F B w0 m n w cx H hx => .inl ⟨rfl, rfl, _, (VR.flat rfl).1 hx⟩⟩
 · rename_i b o q k c
   cases hr : isRig q with
   | true =>
    rw [hr] at hv
    obtain ⟨news, hs, hk⟩ := hv
    exact ⟨k, news, hk, hs.run⟩
   | false =>
   rw [hr] at hv
   dsimp only at hv
   obtain ⟨it, hit, h2⟩ := onS_ok hv
   obtain ⟨news, hsub, hk⟩ := onS_ok h2
   obtain ⟨hnews, hnl⟩ := subL_ok hsub
   refine ⟨k, news, hk, fun F B w0 m n w cx H hx => ?_⟩
   rcases hx.slc_or hr with ⟨rfl, rfl, g, rfl, _⟩ | ⟨g, s, hm, hs, rfl⟩
   · exact .inl ⟨rfl, List.eq_nil_of_length_eq_zero (by simpa using hnl), _, rfl⟩
   · obtain ⟨l, hl, hcell⟩ := H.cell hit hm
     have hl2 : LR (V1 m) news ((l.drop o).take (k * size)) := hnews ▸ (hl.drop o).take _
     refine .inr ⟨g, o + sh s, c, _, rfl, hl2, by rw [hl2.length, hnl], fun j v hj => ?_⟩
     rw [add_lit', show o + sh s + j = sh s + (o + j) by omega]
     refine hcell _ _ ?_
     rw [List.getElem?_take] at hj
     split at hj
     · rwa [List.getElem?_drop] at hj
     · cases hj
 · exact hv.elim
def dstL (h : HP) (e : TypeId) (size : Nat) (s : Value) (K : HP → Nat → List Value → Prop) : Prop :=
 match s with
 | .slice none 0 0 => K h 0 []
 | .slice (some ⟨b, 0, q⟩) k cap => nr q <| onS (lkH h b) fun it => match it with
  | .row e' size' cap' xs => chk (Nat.beq e' e) <| chk (Nat.beq size' size) <| cap' = cap ∧ xs.length = k * size ∧ K (rmH h b) k xs
  | .lst e' size' cap' xs => chk (Nat.beq e' e) <| chk (Nat.beq size' size) <| cap' = cap ∧ xs.length = k * size ∧ K (rmH h b) k xs
  | _ => False
 | _ => False
theorem dstL_ok {h : HP} {e : TypeId} {size : Nat} {s : Value} {K : HP → Nat → List Value → Prop} (hv : dstL h e size s K) : ∃ h' k xs, K h' k xs ∧ xs.length = k * size ∧ (∀ i it, lkH h' i = some it → lkH h i = some it) ∧ ∀ F B w0 m n w cs, HRel F B w0 m h n w → VR m s cs →
 (k = 0 ∧ xs = [] ∧ ∃ a, cs = .slice a 0 0) ∨ ∃ b g cap it, h' = rmH h b ∧ lkH h b = some it ∧ (it.mine = true ∧ it.one = true) ∧ m b g 0 ∧ cs = .slice (some ⟨g, 0, none⟩) k cap ∧ RowIs F B m w g e size cap xs := by
 have rmsub : ∀ b, ∀ i it, lkH (rmH h b) i = some it → lkH h i = some it := fun b i it e => by
  rw [lkH_rm] at e
  split at e
  · cases e
  · exact e
 unfold dstL at hv
 split at hv
 · exact ⟨h, 0, [], hv, by simp, fun _ _ e => e, fun F B w0 m n w cs H hs => .inl ⟨rfl, rfl, _, (VR.flat rfl).1 hs⟩⟩
 · rename_i b q k cap
   have hr := (nr_ok hv).1
   replace hv := (nr_ok hv).2
   obtain ⟨it, hit, h2⟩ := onS_ok hv
   split at h2
   · rename_i e' size' cap' xs
     obtain ⟨q1, h3⟩ := chk_ok h2
     obtain ⟨q2, rfl, hxl, hk⟩ := chk_ok h3
     obtain rfl := Nat.eq_of_beq_eq_true q1
     obtain rfl := Nat.eq_of_beq_eq_true q2
     refine ⟨_, k, xs, hk, hxl, rmsub b, fun F B w0 m n w cs H hs => ?_⟩
     rcases hs.slc_or hr with ⟨rfl, rfl, g, rfl, hm, _⟩ | ⟨g, s, hm, hsn, rfl⟩
     · exact absurd (H.at hit hm).1.symm zero_ne_nilS
     · obtain ⟨rfl, ok⟩ := H.at hit hm
       exact .inr ⟨b, g, cap', _, rfl, hit, ⟨rfl, rfl⟩, hm, by simp [sh_zero], ok⟩
   · rename_i e' size' cap' xs
     obtain ⟨q1, h3⟩ := chk_ok h2
     obtain ⟨q2, rfl, hxl, hk⟩ := chk_ok h3
     obtain rfl := Nat.eq_of_beq_eq_true q1
     obtain rfl := Nat.eq_of_beq_eq_true q2
     refine ⟨_, k, xs, hk, hxl, rmsub b, fun F B w0 m n w cs H hs => ?_⟩
     rcases hs.slc_or hr with ⟨rfl, rfl, g, rfl, hm, _⟩ | ⟨g, s, hm, hsn, rfl⟩
     · rcases H.at hit hm with ⟨_, _, rfl⟩ | ⟨x, _⟩
       · exact .inl ⟨rfl, rfl, _, rfl⟩
       · exact absurd x.symm zero_ne_nilS
     · rcases H.at hit hm with ⟨x, _⟩ | ⟨rfl, ok⟩
       · exact absurd x hsn
       · exact .inr ⟨b, g, cap', _, rfl, hit, ⟨rfl, rfl⟩, hm, by simp [sh_zero], ok⟩
   · exact h2.elim
 · exact hv.elim
theorem strCells_map (s : ByteArray) : Lib.strCells s = (bytesOf s).map byteV' := rfl
theorem LR.strCells {m : BM} (s : ByteArray) : LR (V1 m) ((bytesOf s).map byteV') (Lib.strCells s) := by
 rw [strCells_map]
 exact LR.refl_of fun v hv => by
  obtain ⟨b, _, rfl⟩ := List.mem_map.1 hv
  exact (V1.flat rfl).2 rfl
def zs (k : Nat) : ByteArray := strOf (List.replicate k 0)
theorem zs_size (k : Nat) : (zs k).size = k := by unfold zs; rw [strOf_size, List.length_replicate]
theorem zs_cells (k : Nat) : Lib.strCells (zs k) = List.replicate k (Value.int .u8 0) := by
 show (bytesOf (zs k)).map byteV' = _
 unfold zs
 rw [bytesOf_strOf, List.map_replicate]
 rfl
theorem zs_zero (k : Nat) : Builtin.zeroCells (Value.int .u8 0).cells k = (Lib.strCells (zs k)).toArray := by
 rw [zs_cells]
 apply Array.ext
 · simp [Builtin.zeroCells, Value.cells]
 · intro i h1 h2
   have : i % 1 = 0 := by omega
   simp [Builtin.zeroCells, Value.cells, this]
structure ByteSrc (P : Program) (u : TypeId) (cx : Value) (str : ByteArray) : Prop where
 nil0 : ∀ (w : World) (t ty e : TypeId) (i : TypeInfo), P.underlying t = some (.slice e) → P.info? e = some i → i.zero = some (.int .u8 0) → i.size = 1 → i.bytes = 1 → str.size = 0 → ∀ ad : Option Addr, (Builtin.append_ #[t, u] ty #[.slice ad 0 0, cx]).run P w = .ok (.slice ad 0 0) w
 none : ∀ (w : World) (t ty e : TypeId) (i : TypeInfo), P.underlying t = some (.slice e) → P.info? e = some i → i.zero = some (.int .u8 0) → i.size = 1 → i.bytes = 1 → 0 < str.size → str.size ≤ 140737488355328 → ∀ ad : Option Addr, (Builtin.append_ #[t, u] ty #[.slice ad 0 0, cx]).run P w = .ok (.slice (some ⟨w.heap.size, 0, .none⟩) str.size (grownCap w str.size 0 e)) (w.drew.alloc (.cells ((Lib.strCells str).toArray ++ Builtin.zeroCells (Value.int .u8 0).cells (grownCap w str.size 0 e - str.size)) e))
 room : ∀ (w : World) (t ty e : TypeId) (i : TypeInfo), P.underlying t = some (.slice e) → P.info? e = some i → i.zero = some (.int .u8 0) → i.size = 1 → i.bytes = 1 → ∀ (g sLen sCap : Nat) (cur : Array Value), w.heap[g]? = some (.cells cur e (0, 0)) → sLen + str.size ≤ sCap → sLen + str.size ≤ cur.size → str.size ≤ 140737488355328 →
  (Builtin.append_ #[t, u] ty #[.slice (some ⟨g, 0, .none⟩) sLen sCap, cx]).run P w = .ok (.slice (some ⟨g, 0, .none⟩) (sLen + str.size) sCap) (w.setRow g (cur.toList.take sLen ++ Lib.strCells str ++ cur.toList.drop (sLen + str.size)).toArray)
 grow : ∀ (w : World) (t ty e : TypeId) (i : TypeInfo), P.underlying t = some (.slice e) → P.info? e = some i → i.zero = some (.int .u8 0) → i.size = 1 → i.bytes = 1 → ∀ (b : Addr) (sLen sCap : Nat) (olds : List Value), olds.length = sLen * i.size → (∀ j v, olds[j]? = some v → w.cell? (b.add j) = some v) → 0 < str.size → sCap < sLen + str.size → ((sLen + str.size : Nat) : Int) ≤ 140737488355328 → Builtin.nextslicecap (sLen + str.size) sCap * i.bytes ≤ 281474976710656 →
  (Builtin.append_ #[t, u] ty #[.slice (some b) sLen sCap, cx]).run P w = .ok (.slice (some ⟨w.heap.size, 0, .none⟩) (sLen + str.size) (grownCap w (sLen + str.size) sCap e)) (w.drew.alloc (.cells (olds.toArray ++ (Lib.strCells str).toArray ++ Builtin.zeroCells (Value.int .u8 0).cells (grownCap w (sLen + str.size) sCap e - (sLen + str.size))) e))
theorem ByteSrc.text {P : Program} {u : TypeId} (hu : P.underlying u = some .string) (str : ByteArray) : ByteSrc P u (.string str) str where
 nil0 w t ty e i hd hi hz h1 hb h0 ad := by
  have hfc := Lib.run_firstCells_string (P := P) w i.size str
  rw [h0, List.eq_nil_of_length_eq_zero ((Lib.strCells_length str).trans h0)] at hfc
  cases ad <;> simp [Builtin.append_, run_underlying hd, run_underlying hu, sizeOf, typeInfo, hi, Builtin.lenOf, h0, hfc, storeCells]
 none w t ty e i hd hi hz h1 hb h0 hm ad := by
  have hrun := run_append_none_string (P := P) w t u ty e i _ hd hu hi hz ad str h0 (by omega) (by rw [hb]; omega)
  have e5 : (Lib.strCells str).toArray = str.data.map (fun b => Value.int .u8 b.toNat) := by apply Array.toList_inj.1; simp [Lib.strCells]
  rw [hrun, e5]
 room w t ty e i hd hi hz h1 hb g sLen sCap cur hg hroom hfit hm := Lib.run_append_room_string (P := P) w t u ty e i hd hu hi h1 g sLen sCap cur hg str hroom hfit
 grow w t ty e i hd hi hz h1 hb b sLen sCap olds hlo holds _ hg h63 hfit := Lib.run_append_grow_string (P := P) w t u ty e i _ hd hu hi hz b sLen sCap olds hlo holds str hg (by omega) hfit
theorem ByteSrc.zeros {P : Program} {u : TypeId} {kn kq : IntKind} (hu : P.underlying u = some (.int kn)) (k : Nat) : ByteSrc P u (.int kq k) (zs k) where
 nil0 w t ty e i hd hi hz h1 hb h0 ad := by
  rw [zs_size] at h0
  subst h0
  have hw : IntKind.i64.wrap (0 : Int) = 0 := by rw [IntKind.wrap_i64]; omega
  cases ad <;> simp [Builtin.append_, run_underlying hd, run_underlying hu, sizeOf, typeInfo, hi, asInt, asIntOf, hw, storeCells]
 none w t ty e i hd hi hz h1 hb h0 hm ad := by
  rw [zs_size] at h0 hm ⊢
  rw [← zs_zero]
  cases ad with
  | none => exact Lib.run_append_nil_zeros w t u ty e i _ kq kn hd hu hi hz k h0 (by omega) (by omega) (by rw [hb]; omega)
  | some b =>
   have := Lib.run_append_grow_zeros (P := P) w t u ty e i _ kq kn hd hu hi hz (some b) 0 0 [] (by simpa using run_firstCells_some (P := P) w.drew i.size 0 b 0 0 [] (by simp) (fun j v h => by simp at h)) k h0 (by omega) (by omega) (by omega) (by rw [hb]; omega) (by rw [Nat.zero_add, nextslicecap_zero h0, hb]; omega)
   simpa using this
 room w t ty e i hd hi hz h1 hb g sLen sCap cur hg hroom hfit hm := by
  have hz2 := zs_zero k
  have hz3 := zs_size k
  rw [zs_size] at hroom hfit hm ⊢
  have hst := run_storeCells_at P g sLen e (Lib.strCells (zs k)) 0 cur w hg (by rw [Lib.strCells_length, zs_size]; omega) (Lib.strCells_oneCell _)
  simp only [Nat.add_zero, Lib.strCells_length, zs_size] at hst
  have hw : IntKind.i64.wrap (k : Int) = k := by rw [IntKind.wrap_i64]; omega
  have hneg : ¬ ((k : Int) < 0) := by omega
  have h48i : ¬ (281474976710656 < (k : Int)) := by omega
  rcases Nat.eq_zero_or_pos k with h0 | h0
  · subst h0
    have e0 : Lib.strCells (zs 0) = [] := rfl
    have hw : IntKind.i64.wrap (0 : Int) = 0 := by rw [IntKind.wrap_i64]; omega
    rw [e0] at hst ⊢
    simp [Builtin.append_, run_underlying hd, run_underlying hu, sizeOf, typeInfo, zeroValue, hi, hz, h1, hb, asInt, asIntOf, hw, hroom, Addr.add_lit, hst]
    intro hx
    omega
  · have hk : k ≠ 0 := by omega
    simp [Builtin.append_, run_underlying hd, run_underlying hu, sizeOf, typeInfo, zeroValue, hi, hz, h1, hb, asInt, asIntOf, hw, hneg, h48i, hk, hroom, Addr.add_lit, hz2, hst]
 grow w t ty e i hd hi hz h1 hb b sLen sCap olds hlo holds h0 hg h63 hfit := by
  rw [zs_size] at h0 hg h63 hfit ⊢
  rw [← zs_zero]
  exact Lib.run_append_grow_zeros (P := P) w t u ty e i _ kq kn hd hu hi hz (some b) sLen sCap olds (run_firstCells_some (P := P) w.drew i.size sLen b sLen sCap olds hlo (by simpa using holds)) k h0 (by omega) hg (by omega) (by rw [hb]; omega) hfit
def srcB (T : Tab) (xT : TypeId) (x : Value) (K : Nat → List Value → Prop) : Prop :=
 match x with
 | .string str => onS (lkR T xT) fun rx => match rx.ty with
  | .string => K str.size ((bytesOf str).map byteV')
  | _ => False
 | .int _ z => onS (lkR T xT) fun rx => match rx.ty with
  | .int _ => ∃ k : Nat, (k : Int) = z ∧ K k ((List.replicate k (0 : UInt8)).map byteV')
  | _ => False
 | _ => False
theorem srcB_ok {P : Program} {T : Tab} (hT : TabOk P T) {xT : TypeId} {x : Value} {K : Nat → List Value → Prop} (hv : srcB T xT x K) : ∃ str : ByteArray, K str.size ((bytesOf str).map byteV') ∧ ∀ {m : BM} {c : Value}, VR m x c → ByteSrc P xT c str := by
 unfold srcB at hv
 split at hv
 · rename_i str
   obtain ⟨rx, hrx, h3⟩ := onS_ok hv
   obtain ⟨okx, rfl⟩ := hT.look hrx
   have hdx := okx.desc
   split at h3
   · rename_i htx
     rw [htx] at hdx
     exact ⟨str, h3, fun hc => by rw [hc.str]; exact ByteSrc.text hdx str⟩
   · exact h3.elim
 · rename_i kq z
   obtain ⟨rx, hrx, h3⟩ := onS_ok hv
   obtain ⟨okx, rfl⟩ := hT.look hrx
   have hdx := okx.desc
   split at h3
   · rename_i kn htx
     rw [htx] at hdx
     obtain ⟨k, rfl, hk⟩ := h3
     refine ⟨zs k, ?_, fun hc => ?_⟩
     · rw [zs_size]
       unfold zs
       rw [bytesOf_strOf]
       exact hk
     · rw [(VR.flat rfl).1 hc]
       exact ByteSrc.zeros hdx k
   · exact h3.elim
 · exact hv.elim
def isZ8 : Value → Bool
 | .int .u8 (.ofNat 0) => true
 | _ => false
theorem isZ8_ok {v : Value} (h : isZ8 v = true) : v = .int .u8 0 := by
 unfold isZ8 at h
 split at h
 · rfl
 · cases h
def vcAppendS (T : Tab) (h : HP) (n : Nat) (sT xT : TypeId) (s x : Value) (K : Value → HP → Nat → Prop) : Prop :=
 srcB T xT x fun len news => onS (lkR T sT) fun r => match r.ty with
  | .slice e => onS (lkR T e) fun re => match isZ8 re.zero, Nat.beq re.size 1, Nat.beq re.bytes 1 with
   | true, true, true => dstL h e 1 s fun h' k xs =>
    chk (Nat.ble (k + len) 140737488355328) <| ∀ cap, k + len ≤ cap → K (mslice n (k + len) cap) ((n, .lst e 1 cap (xs ++ news)) :: h') (n + 1)
   | _, _, _ => False
  | _ => False
theorem vcAppendS_ok {P : Program} {T : Tab} (hT : TabOk P T) {t : TM} {h : HP} {n : Nat} {o : Oper} {sT xT : TypeId} {args : Array Operand} (ho : o.op = .call { callee := .builtin .append, args := args, argTypes := #[sT, xT] })
 {s x : Value} (hvs : ∀ {m : BM} {N : Nat} {a : Act}, TRel m N t a → LR (VR m) [s, x] (args.toList.map a.eval)) {K : Value → HP → Nat → Prop} (hv : vcAppendS T h n sT xT s x K) : EOk P t h n o K := by
 intro F B w0 m w N a Q H ht
 replace hvs := hvs ht
 unfold vcAppendS at hv
 obtain ⟨str, h3, hsrc⟩ := srcB_ok hT hv
 obtain ⟨r, hr, h4⟩ := onS_ok h3
 obtain ⟨ok, rfl⟩ := hT.look hr
 have hd := ok.desc
 split at h4
 · rename_i e hty
   rw [hty] at hd
   obtain ⟨re, hre, h5⟩ := onS_ok h4
   obtain ⟨oke, rfl⟩ := hT.look hre
   obtain ⟨i, hi, hi1, hi2, hi3⟩ := oke.info'
   obtain ⟨cs, cx, hargs, hcs, hsrc⟩ : ∃ cs cx, args.map a.eval = #[cs, cx] ∧ VR m s cs ∧ ByteSrc P xT cx str := by
    generalize hg : args.toList.map a.eval = l at hvs
    match l, hvs with
    | [c, d], ⟨hc, hd, _⟩ => exact ⟨c, d, Array.toList_inj.1 (by simpa using hg), hc, hsrc hd⟩
   have fin : ∀ (v : Value) (w' : World), (Builtin.append_ #[r.t, xT] o.type #[cs, cx]).run P w = .ok v w' → (execOp a.eval o).run P w = .ok (.value v) w' := by
    intro v w' hrun
    simp only [execOp, ho, resolve, Sem.run_bind, Sem.run_pure, Result.andThen_ok, invoke, builtin, hargs]
    erw [hrun]; rfl
   split at h5
   · rename_i e1 e2 e3
     have ez : re.zero = .int .u8 0 := isZ8_ok e1
     have e1 : re.zero.cells.size = 1 := by rw [ez]; rfl
     have e2 : re.size = 1 := Nat.eq_of_beq_eq_true e2
     have e3 : re.bytes = 1 := Nat.eq_of_beq_eq_true e3
     have zsz : ∀ q, (Builtin.zeroCells (Value.int .u8 0).cells q).size = q := fun q => by rw [size_zeroCells]; exact Nat.mul_one q
     obtain ⟨h', k, xs, h7, hxl, hsub, hdst⟩ := dstL_ok h5
     obtain ⟨hb2, hk⟩ := chk_ok h7
     replace hb2 := Nat.le_of_ble_eq_true hb2
     clear hv h3 h4 h5 h7
     rw [e2] at hi2
     rw [e3] at hi3
     rw [ez] at hi1
     have Hs := H.sub_of hsub
     have hl2 := LR.strCells (m := m) str
     have hlen2 := Lib.strCells_length str
     have hc1 := Lib.strCells_oneCell str
     have fin2 : ∀ (c : Value) (w' : World) (m' : BM) (cap : Nat), k + str.size ≤ cap → (Builtin.append_ #[r.t, xT] o.type #[cs, cx]).run P w = .ok c w' → m.le m' → VR m' (mslice n (k + str.size) cap) c →
      HRel F B w0 m' ((n, .lst re.t 1 cap (xs ++ (bytesOf str).map byteV')) :: h') (n + 1) w' → o.wp P a w (fun a' w' => ∃ m' v c h' n', m.le m' ∧ a' = a.put o.dst c ∧ VR m' v c ∧ HRel F B w0 m' h' n' w' ∧ K v h' n') Q := by
      intro c w' m' cap hcap hrun hm hv hH
      unfold Oper.wp
      rw [fin _ _ hrun]
      exact ⟨m', _, _, _, _, hm, rfl, hv, hH, hk cap hcap⟩
     rcases hdst F B w0 m n w cs H hcs with ⟨rfl, rfl, ad, rfl⟩ | ⟨b, g, cap', its, rfl, hits, ⟨hmine, hone⟩, hms, rfl, hg, hcm, ol, cur, hol, hheap, hsz, htk, hle⟩
     · rcases Nat.eq_zero_or_pos str.size with h0 | h0
       · have e0 : (bytesOf str).map byteV' = [] := by
          rw [← strCells_map]; exact List.eq_nil_of_length_eq_zero (hlen2.trans h0)
         have hrun := hsrc.nil0 w r.t o.type re.t i hd hi hi1 hi2 hi3 h0 ad
         rw [e0] at fin2
         rw [h0] at fin2
         exact fin2 _ w _ 0 (Nat.le_refl _) hrun (BM.le_put _ _ _ _) (VR.nilA m n ad) (Hs.pushNilA re.t 1 _)
       · have hrun := hsrc.none w r.t o.type re.t i hd hi hi1 hi2 hi3 h0 (by omega) ad
         have hge := grownCap_ge w str.size 0 re.t
         have hcm : grownCap w str.size 0 re.t ≤ maxLen := grownCap_le_maxLen w str.size 0 re.t (by unfold maxLen; omega)
         have hp := (Hs.later (Below.drew' w)).pushLst re.t 1 (grownCap w str.size 0 re.t) hl2 (rest := (Builtin.zeroCells (Value.int .u8 0).cells (grownCap w str.size 0 re.t - str.size)).toList) (by
          have q1 := hl2.length
          have q2 := zsz (grownCap w str.size 0 re.t - str.size)
          rw [hlen2] at q1
          have q3 := (Array.length_toList (xs := Builtin.zeroCells (Value.int .u8 0).cells (grownCap w str.size 0 re.t - str.size))).trans q2
          omega) hcm
         have e5 : (Lib.strCells str ++ (Builtin.zeroCells (Value.int .u8 0).cells (grownCap w str.size 0 re.t - str.size)).toList).toArray = (Lib.strCells str).toArray ++ Builtin.zeroCells (Value.int .u8 0).cells (grownCap w str.size 0 re.t - str.size) := by
          apply Array.toList_inj.1; simp
         rw [e5] at hp
         refine fin2 _ _ _ _ (by omega) hrun (BM.le_add _ _ _) ?_ hp
         rw [Nat.zero_add]
         exact VR.newM m n _ _ _
     · have holl : ol.length = k := by rw [hol.length, hxl, Nat.mul_one]
       rw [Nat.mul_one] at hsz
       by_cases hroom : k + str.size ≤ cap'
       · have hrun := hsrc.room w r.t o.type re.t i hd hi hi1 hi2 hi3 g k cap' cur hheap hroom (by omega) (by omega)
         have hmv := H.move (it' := .lst re.t 1 cap' (xs ++ (bytesOf str).map byteV')) (w' := w.setRow g (cur.toList.take k ++ Lib.strCells str ++ cur.toList.drop (k + str.size)).toArray) hits hmine hone rfl hms hg
          (fun q _ hq => setRow_other w g q _ hq) (Nat.le_of_eq (setRow_size w g _).symm) rfl rfl rfl (.inl rfl)
          (.inr ⟨rfl, hg, hcm, ol ++ Lib.strCells str, _, (LR.append hol hl2).mono (fun _ _ => V1.mono (BM.le_add _ _ _)), setRow_heap w g cur _ re.t _ hheap, by
           simp only [List.size_toArray, List.length_append, List.length_take, List.length_drop, Array.length_toList, hlen2]; omega, by
           rw [← holl, htk]
           exact List.take_left, by
           simp only [List.size_toArray, List.length_append, List.length_take, List.length_drop, Array.length_toList, holl, hlen2]; omega⟩)
         exact fin2 _ _ _ _ hroom hrun (BM.le_add _ _ _) (VR.newM m n _ _ _) hmv
       · have holds : ∀ j v, ol[j]? = some v → w.cell? ((⟨g, 0, none⟩ : Addr).add j) = some v := by
          intro j v hj
          have hlt : j < ol.length := by
           rcases Nat.lt_or_ge j ol.length with h | h
           · exact h
           · rw [List.getElem?_eq_none h] at hj; cases hj
          rw [add_lit', Nat.zero_add, cell_of_row w g j cur re.t (0, 0) hheap]
          rw [← htk, List.getElem?_take, if_pos hlt] at hj
          simpa using hj
         have hrun := hsrc.grow w r.t o.type re.t i hd hi hi1 hi2 hi3 ⟨g, 0, none⟩ k cap' ol (by rw [holl, hi2, Nat.mul_one]) holds (by omega) (by omega) (by omega) (growslice_fits (by omega) (by rw [hi3]; omega))
         have hge := grownCap_ge w (k + str.size) cap' re.t
         have hcm2 : grownCap w (k + str.size) cap' re.t ≤ maxLen := grownCap_le_maxLen w (k + str.size) cap' re.t (by unfold maxLen; omega)
         generalize grownCap w (k + str.size) cap' re.t = gc at hge hcm2 hrun
         have hmv := H.move (it' := .lst re.t 1 gc (xs ++ (bytesOf str).map byteV')) (w' := w.drew.alloc (.cells (ol.toArray ++ (Lib.strCells str).toArray ++ Builtin.zeroCells (Value.int .u8 0).cells (gc - (k + str.size))) re.t)) hits hmine hone rfl hms hg
          (fun q hq _ => heap_alloc_old w.drew _ hq) (by simp) rfl rfl rfl (g' := w.heap.size) (.inr (Nat.le_refl _))
          (.inr ⟨rfl, .inl H.base', hcm2, ol ++ Lib.strCells str, _, (LR.append hol hl2).mono (fun _ _ => V1.mono (BM.le_add _ _ _)), heap_alloc_new w.drew _, by
           have := zsz (gc - (k + str.size))
           simp only [Array.size_append, List.size_toArray, holl, hlen2, this]; omega, by
           simp only [Array.toList_append, List.append_assoc]
           rw [← List.append_assoc]
           exact List.take_left, by
           simp only [Array.size_append, List.size_toArray, List.length_append]; omega⟩)
         exact fin2 _ _ _ _ hge hrun (BM.le_add _ _ _) (VR.newM m n _ _ _) hmv
   · exact h5.elim
 · exact h4.elim
def vcAppend (T : Tab) (h : HP) (n : Nat) (ts : Array TypeId) (vs : List Value) (K : Value → HP → Nat → Prop) : Prop :=
 match ts, vs with
 | ⟨[sT, xT]⟩, [s, x] => match Nat.beq sT xT with
  | false => vcAppendS T h n sT xT s x K
  | true => onS (lkR T sT) fun r => match r.ty with
   | .slice e => onS (lkR T e) fun re => match Nat.beq re.zero.cells.size re.size, Nat.ble 1 re.size with
    | true, true => letR re fun size bytes => srcL h size x fun m news => chk (oneAll news) <| dstL h e size s fun h' k xs =>
     chk (Nat.ble ((k + m) * bytes) 140737488355328) <| chk (Nat.ble (k + m) 140737488355328) <| ∀ cap, k + m ≤ cap → K (mslice n (k + m) cap) ((n, .lst e size cap (xs ++ news)) :: h') (n + 1)
    | _, _ => False
   | _ => False
 | _, _ => False
theorem LR.oneAll {m : BM} : ∀ {l l' : List Value}, LR (V1 m) l l' → oneAll l = true → ∀ u ∈ l', u.oneCell' = true
 | [], [], _, _, u, hu => by cases hu
 | v :: l, c :: l', h, h1, u, hu => by
  simp only [Go.Proofs.YtelolcagncgfpaaGreat.oneAll, List.all_cons, Bool.and_eq_true] at h1
  cases hu with
  | head => exact V1.one h1.1 h.1
  | tail _ hu => exact LR.oneAll h.2 h1.2 u hu
theorem vcAppend_ok {P : Program} {T : Tab} (hT : TabOk P T) {t : TM} {h : HP} {n : Nat} {o : Oper} {ts : Array TypeId} {args : Array Operand} (ho : o.op = .call { callee := .builtin .append, args := args, argTypes := ts })
 {K : Value → HP → Nat → Prop} (hv : evL t args.toList fun vs => vcAppend T h n ts vs K) : EOk P t h n o K := by
 intro F B w0 m w N a Q H ht
 obtain ⟨vs, h2, hvs0⟩ := evL_ok hv
 have hvs := hvs0 ht
 unfold vcAppend at h2
 split at h2
 · rename_i sT xT s x
   split at h2
   · exact vcAppendS_ok hT ho hvs0 h2 F B w0 m w N a Q H ht
   · rename_i htt
     obtain rfl : sT = xT := Nat.eq_of_beq_eq_true htt
     obtain ⟨r, hr, h3⟩ := onS_ok h2
     obtain ⟨ok, rfl⟩ := hT.look hr
     have hd := ok.desc
     split at h3
     · rename_i e hty
       rw [hty] at hd
       obtain ⟨re, hre, h4⟩ := onS_ok h3
       obtain ⟨oke, rfl⟩ := hT.look hre
       obtain ⟨i, hi, hi1, hi2, hi3⟩ := oke.info'
       obtain ⟨cs, cx, hargs, hcs, hcx⟩ : ∃ cs cx, args.map a.eval = #[cs, cx] ∧ VR m s cs ∧ VR m x cx := by
        generalize hg : args.toList.map a.eval = l at hvs
        match l, hvs with
        | [c, d], ⟨hc, hd, _⟩ => exact ⟨c, d, Array.toList_inj.1 (by simpa using hg), hc, hd⟩
       have fin : ∀ (v : Value) (w' : World), (Builtin.append_ #[r.t, r.t] o.type #[cs, cx]).run P w = .ok v w' → (execOp a.eval o).run P w = .ok (.value v) w' := by
        intro v w' hrun
        simp only [execOp, ho, resolve, Sem.run_bind, Sem.run_pure, Result.andThen_ok, invoke, builtin, hargs]
        erw [hrun]; rfl
       split at h4
       · rename_i e1 e2
         have e1 : re.zero.cells.size = re.size := Nat.eq_of_beq_eq_true e1
         have e2 : 1 ≤ re.size := Nat.le_of_ble_eq_true e2
         have zsz : ∀ q, (Builtin.zeroCells re.zero.cells q).size = q * re.size := fun q => by rw [size_zeroCells, e1]
         rw [letR_eq] at h4
         obtain ⟨mm, news, h5, hsrc⟩ := srcL_ok h4
         obtain ⟨h1, h6⟩ := chk_ok h5
         obtain ⟨h', k, xs, h7, hxl, hsub, hdst⟩ := dstL_ok h6
         obtain ⟨hb, h8⟩ := chk_ok h7
         obtain ⟨hb2, hk⟩ := chk_ok h8
         replace hb := Nat.le_of_ble_eq_true hb
         replace hb2 := Nat.le_of_ble_eq_true hb2
         clear h2 h3 h4 h5 h6 h7 h8
         have hzl : ∀ cap q, q ≤ cap → (q * i.size + (Builtin.zeroCells re.zero.cells (cap - q)).toList.length) = cap * re.size := by
          intro cap q hq
          rw [Array.length_toList, zsz, hi2, ← Nat.add_mul, show q + (cap - q) = cap by omega]
         have Hs := H.sub_of hsub
         have fin2 : ∀ (c : Value) (w' : World) (m' : BM) (cap : Nat), k + mm ≤ cap → (Builtin.append_ #[r.t, r.t] o.type #[cs, cx]).run P w = .ok c w' → m.le m' → VR m' (mslice n (k + mm) cap) c →
          HRel F B w0 m' ((n, .lst re.t re.size cap (xs ++ news)) :: h') (n + 1) w' → o.wp P a w (fun a' w' => ∃ m' v c h' n', m.le m' ∧ a' = a.put o.dst c ∧ VR m' v c ∧ HRel F B w0 m' h' n' w' ∧ K v h' n') Q := by
          intro c w' m' cap hcap hrun hm hv hH
          unfold Oper.wp
          rw [fin _ _ hrun]
          exact ⟨m', _, _, _, _, hm, rfl, hv, hH, hk cap hcap⟩
         rcases hdst F B w0 m n w cs H hcs with ⟨rfl, rfl, ad, rfl⟩ | ⟨b, g, cap', its, rfl, hits, ⟨hmine, hone⟩, hms, rfl, hg, hcm, ol, cur, hol, hheap, hsz, htk, hle⟩
         · -- onto nil
           rcases hsrc F B w0 m n w cx H hcx with ⟨rfl, rfl, ax, rfl⟩ | ⟨gx, ox, c2, nl, rfl, hl2, hlen2, hcell2⟩
           · refine fin2 _ w _ 0 (Nat.le_refl _) ?_ (BM.le_put _ _ _ _) (VR.nilA m n ad) (Hs.pushNilA re.t re.size _)
             cases ax <;> cases ad <;> simp [Builtin.append_, run_underlying (show P.underlying r.t = _ from hd), sizeOf, typeInfo, hi, Builtin.lenOf, Builtin.firstCells, loadCells, loadCellsFrom, storeCells]
           rcases Nat.eq_zero_or_pos mm with h0 | h0
           · subst h0
             have e0 : nl = [] := List.eq_nil_of_length_eq_zero (by simpa using hlen2)
             subst e0
             have e3 : news = [] := by
              cases news with
              | nil => rfl
              | cons _ _ => exact hl2.elim
             subst e3
             refine fin2 _ w _ 0 (Nat.le_refl _) ?_ (BM.le_put _ _ _ _) (VR.nilA m n ad) (Hs.pushNilA re.t re.size _)
             cases ad <;> simp [Builtin.append_, run_underlying (show P.underlying r.t = _ from hd), sizeOf, typeInfo, hi, Builtin.lenOf, Builtin.firstCells, loadCells, loadCellsFrom, storeCells]
           · have hrun := run_append_none (P := P) w r.t o.type re.t i re.zero hd hi hi1 ad ⟨gx, ox, none⟩ mm c2 nl (by rw [hlen2, hi2]) hcell2 h0 (by omega) (by rw [hi3]; rw [Nat.zero_add] at hb; omega)
             have hge := grownCap_ge w mm 0 re.t
             have hcm : grownCap w mm 0 re.t ≤ maxLen := grownCap_le_maxLen w mm 0 re.t (by unfold maxLen; omega)
             have hp := (Hs.later (Below.drew' w)).pushLst re.t re.size (grownCap w mm 0 re.t) hl2 (rest := (Builtin.zeroCells re.zero.cells (grownCap w mm 0 re.t - mm)).toList) (by have := hzl _ _ hge; rw [hi2] at this; rw [← hl2.length, hlen2]; exact this) hcm
             have e3 : (nl ++ (Builtin.zeroCells re.zero.cells (grownCap w mm 0 re.t - mm)).toList).toArray = nl.toArray ++ Builtin.zeroCells re.zero.cells (grownCap w mm 0 re.t - mm) := by
              apply Array.toList_inj.1; simp
             rw [e3] at hp
             refine fin2 _ _ _ _ (by omega) hrun (BM.le_add _ _ _) ?_ hp
             rw [Nat.zero_add]
             exact VR.newM m n _ _ _
         · -- onto a row
           have holl : ol.length = k * i.size := by rw [hol.length, hxl, hi2]
           have hkc : k ≤ cap' := by
            rw [holl, hsz, hi2] at hle
            exact Nat.le_of_mul_le_mul_right hle e2
           rcases hsrc F B w0 m n w cx H hcx with ⟨rfl, rfl, ax, rfl⟩ | ⟨gx, ox, c2, nl, rfl, hl2, hlen2, hcell2⟩
           · have hmv := H.move (it' := .lst re.t re.size cap' (xs ++ [])) (w' := w) hits hmine hone rfl hms hg (fun _ _ _ => rfl) (Nat.le_refl _) rfl rfl rfl (.inl rfl)
              (.inr ⟨rfl, hg, hcm, ol, cur, by rw [List.append_nil]; exact hol.mono fun _ _ => V1.mono (BM.le_add _ _ _), hheap, hsz, htk, hle⟩)
             refine fin2 _ w _ _ hkc ?_ (BM.le_add _ _ _) (VR.newM m n g _ _) hmv
             cases ax <;> simp [Builtin.append_, run_underlying (show P.underlying r.t = _ from hd), sizeOf, typeInfo, hi, Builtin.lenOf, Builtin.firstCells, hkc, storeCells, loadCells, loadCellsFrom]
           have hc1 := hl2.oneAll h1
           rw [← hi2] at hlen2
           by_cases hroom : k + mm ≤ cap'
           · have hfit : k * i.size + nl.length ≤ cur.size := by rw [hlen2, hsz, hi2, ← Nat.add_mul]; exact Nat.mul_le_mul_right _ hroom
             have hrun := run_append_room (P := P) w r.t o.type re.t i hd hi g k cap' cur hheap ⟨gx, ox, none⟩ mm c2 nl hlen2 hcell2 hc1 hroom hfit
             have hmv := H.move (it' := .lst re.t re.size cap' (xs ++ news)) (w' := w.setRow g (cur.toList.take (k * i.size) ++ nl ++ cur.toList.drop (k * i.size + nl.length)).toArray) hits hmine hone rfl hms hg
              (fun q _ hq => setRow_other w g q _ hq) (Nat.le_of_eq (setRow_size w g _).symm) rfl rfl rfl (.inl rfl)
              (.inr ⟨rfl, hg, hcm, ol ++ nl, _, (LR.append hol hl2).mono (fun _ _ => V1.mono (BM.le_add _ _ _)), setRow_heap w g cur _ re.t _ hheap, by
               simp only [List.size_toArray, List.length_append, List.length_take, List.length_drop, Array.length_toList]; omega, by
               rw [← holl, htk]
               exact List.take_left, by
               simp only [List.size_toArray, List.length_append, List.length_take, List.length_drop, Array.length_toList, holl]; omega⟩)
             exact fin2 _ _ _ _ hroom hrun (BM.le_add _ _ _) (VR.newM m n _ _ _) hmv
           · have holds : ∀ j v, ol[j]? = some v → w.cell? ((⟨g, 0, none⟩ : Addr).add j) = some v := by
              intro j v hj
              have hlt : j < ol.length := by
               rcases Nat.lt_or_ge j ol.length with h | h
               · exact h
               · rw [List.getElem?_eq_none h] at hj; cases hj
              rw [add_lit', Nat.zero_add, cell_of_row w g j cur re.t (0, 0) hheap]
              rw [← htk, List.getElem?_take, if_pos hlt] at hj
              simpa using hj
             have hrun := run_append_grow (P := P) w r.t o.type re.t i re.zero hd hi hi1 ⟨g, 0, none⟩ k cap' ol holl holds ⟨gx, ox, none⟩ mm c2 nl hlen2 hcell2 (by omega) (by omega) (growslice_fits (by omega) (by rw [hi3]; exact hb))
             have hge := grownCap_ge w (k + mm) cap' re.t
             have hcm2 : grownCap w (k + mm) cap' re.t ≤ maxLen := grownCap_le_maxLen w (k + mm) cap' re.t (by unfold maxLen; omega)
             generalize grownCap w (k + mm) cap' re.t = gc at hge hcm2 hrun
             have hmv := H.move (it' := .lst re.t re.size gc (xs ++ news)) (w' := w.drew.alloc (.cells (ol.toArray ++ nl.toArray ++ Builtin.zeroCells re.zero.cells (gc - (k + mm))) re.t)) hits hmine hone rfl hms hg
              (fun q hq _ => heap_alloc_old w.drew _ hq) (by simp) rfl rfl rfl (g' := w.heap.size) (.inr (Nat.le_refl _))
              (.inr ⟨rfl, .inl H.base', hcm2, ol ++ nl, _, (LR.append hol hl2).mono (fun _ _ => V1.mono (BM.le_add _ _ _)), heap_alloc_new w.drew _, by
               have := hzl gc (k + mm) hge
               simp only [Array.size_append, List.size_toArray, holl, hlen2]
               rw [Array.length_toList] at this
               rw [← Nat.add_mul]; exact this, by
               simp only [Array.toList_append, List.append_assoc]
               rw [← List.append_assoc]
               exact List.take_left, by
               simp only [Array.size_append, List.size_toArray, List.length_append]; omega⟩)
             exact fin2 _ _ _ _ hge hrun (BM.le_add _ _ _) (VR.newM m n _ _ _) hmv
       · exact h4.elim
     · exact h3.elim
 · exact h2.elim
def appK : List Value → List Value → (List Value → Prop) → Prop
 | [], r, K => K r
 | v :: vs, r, K => appK vs r fun l => K (v :: l)
theorem appK_ok : ∀ {vs r : List Value} {K : List Value → Prop}, appK vs r K → K (vs ++ r)
 | [], _, _, h => h
 | v :: vs, r, K, h => appK_ok (vs := vs) (r := r) (K := fun l => K (v :: l)) h
def vcCall (P : Program) (h : HP) (n : Nat) (f : Value) (vs : List Value) (K : Value → HP → Nat → Prop) : Prop :=
 match f with
 | .func (.func f) ⟨[]⟩ ⟨cap⟩ => match cap.all leaf with | true => appK vs cap fun l => CallOb P f l h n K | false => False
 | _ => False
theorem vcCall_ok {P : Program} {t : TM} {h : HP} {n : Nat} {o : Oper} {ts : Array TypeId} {x : Operand} {args : Array Operand} (ho : o.op = .call { callee := .value x, args := args, argTypes := ts })
 {f : Value} (hf : ev t x = some f) {K : Value → HP → Nat → Prop} (hv : evL t args.toList fun vs => vcCall P h n f vs K) : EOk P t h n o K := by
 intro F B w0 m w N a Q H ht
 obtain ⟨vs, h2, hvs⟩ := evL_ok hv
 replace hvs := hvs ht
 unfold vcCall at h2
 split at h2
 · rename_i g cap
   split at h2
   · rename_i hl
     replace h2 := appK_ok h2
     have hl' : ∀ u ∈ cap, leaf u = true := by simpa using hl
     have hfv := (VR.of1 rfl).1 (ev_ok hf ht)
     obtain ⟨cs, hcs, e⟩ : ∃ cs, LR (V0 m) cap cs ∧ a.eval x = .func (.func g) #[] cs.toArray := hfv
     have hcs' : LR (VR m) cap cs := by
      clear e h2 hl hf hv
      induction cap generalizing cs with
      | nil => cases cs with | nil => trivial | cons _ _ => exact hcs.elim
      | cons v vs ih =>
       cases cs with
       | nil => exact hcs.elim
       | cons c cs => exact ⟨(VR.of0 (hl' v (by simp))).2 hcs.1, ih (fun u hu => hl' u (by simp [hu])) cs hcs.2⟩
     have hrun : (execOp a.eval o).run P w = .ok (.enter g (args.toList.map a.eval ++ cs).toArray) w := by
      simp only [execOp, ho, resolve, e, Deferred.ofValue, Sem.run_bind, Sem.run_pure, Result.andThen_ok, invoke]
      rw [show (#[] ++ Array.map a.eval args ++ cs.toArray : Array Value) = (args.toList.map a.eval ++ cs).toArray from by apply Array.toList_inj.1; simp]
      exact h2.fn _ _
     unfold Oper.wp
     rw [hrun]
     refine (h2.run F B w0 m w _ H (hvs.append hcs')).mono ?_
     rintro e w' ⟨m', v, c, h', n', rfl, hm, hv, H', hk⟩
     exact ⟨m', v, c, h', n', hm, rfl, hv, H', hk⟩
   · exact h2.elim
 · exact h2.elim
structure MethOb (P : Program) (ty : TypeId) (name : String) (f : FuncId) : Prop where
 run : ∀ (a : Addr) (w : World), (method (P.types.size + Made.depth) ty (.pointer (some a)) name).run P w = .ok (f, .pointer (some a)) w
structure MethObM (P : Program) (ty : TypeId) (name : String) (f : FuncId) : Prop where
 run : ∀ (a : Nat) (w : World), (method (P.types.size + Made.depth) ty (.map (some a)) name).run P w = .ok (f, .map (some a)) w
def vcInvoke (P : Program) (h : HP) (n : Nat) (recv : Value) (name : String) (vs : List Value) (K : Value → HP → Nat → Prop) : Prop :=
 match recv with
 | .iface ty (.pointer (some a)) => ∃ f, MethOb P ty name f ∧ CallOb P f (.pointer (some a) :: vs) h n K
 | .iface ty (.map (some a)) => ∃ f, MethObM P ty name f ∧ CallOb P f (.map (some a) :: vs) h n K
 | _ => False
theorem vcInvoke_ok {P : Program} {t : TM} {h : HP} {n : Nat} {o : Oper} {ts : Array TypeId} {x : Operand} {name : String} {args : Array Operand} (ho : o.op = .call { callee := .invoke x name, args := args, argTypes := ts })
 {r : Value} (hf : ev t x = some r) {K : Value → HP → Nat → Prop} (hv : evL t args.toList fun vs => vcInvoke P h n r name vs K) : EOk P t h n o K := by
 intro F B w0 m w N a Q H ht
 obtain ⟨vs, h2, hvs⟩ := evL_ok hv
 replace hvs := hvs ht
 unfold vcInvoke at h2
 split at h2
 · rename_i ty ad
   obtain ⟨f, hm, hc⟩ := h2
   obtain ⟨b, hb, e⟩ : ∃ b, A0 m ad b ∧ a.eval x = .iface ty (.pointer (some b)) := (VR.of0 rfl).1 (ev_ok hf ht)
   have hrun : (execOp a.eval o).run P w = .ok (.enter f ((Value.pointer (some b)) :: args.toList.map a.eval).toArray) w := by
    simp only [execOp, ho, resolve, e, Sem.run_bind, Sem.run_pure, Result.andThen_ok, invoke]
    have h0 : (#[Value.iface ty (Value.pointer (some b))] ++ Array.map a.eval args)[0]? = some (Value.iface ty (Value.pointer (some b))) := by
     rw [Array.getElem?_append_left (show 0 < 1 from Nat.zero_lt_one)]; rfl
    rw [h0]
    have harr : (#[Value.pointer (some b)] ++ (#[Value.iface ty (Value.pointer (some b))] ++ Array.map a.eval args).extract 1 : Array Value) = ((Value.pointer (some b)) :: args.toList.map a.eval).toArray := by
     apply Array.toList_inj.1
     simp
     exact List.take_of_length_le (by simp)
    simp only [callMethod, Sem.run_bind, run_program, Result.andThen_ok, hm.run b w]
    rw [harr]
    exact hc.fn _ _
   unfold Oper.wp
   rw [hrun]
   refine (hc.run F B w0 m w (.pointer (some b) :: args.toList.map a.eval) H ⟨VR.ptr_of hb, hvs⟩).mono ?_
   rintro e w' ⟨m', v, c, h', n', rfl, hm, hv, H', hk⟩
   exact ⟨m', v, c, h', n', hm, rfl, hv, H', hk⟩
 · rename_i ty ad
   obtain ⟨f, hm, hc⟩ := h2
   obtain ⟨b, hb, e⟩ : ∃ b, A0 m ⟨ad, 0, none⟩ b ∧ a.eval x = .iface ty (.map (some b.block)) := (VR.of0 rfl).1 (ev_ok hf ht)
   have hrun : (execOp a.eval o).run P w = .ok (.enter f ((Value.map (some b.block)) :: args.toList.map a.eval).toArray) w := by
    simp only [execOp, ho, resolve, e, Sem.run_bind, Sem.run_pure, Result.andThen_ok, invoke]
    have h0 : (#[Value.iface ty (Value.map (some b.block))] ++ Array.map a.eval args)[0]? = some (Value.iface ty (Value.map (some b.block))) := by
     rw [Array.getElem?_append_left (show 0 < 1 from Nat.zero_lt_one)]; rfl
    rw [h0]
    have harr : (#[Value.map (some b.block)] ++ (#[Value.iface ty (Value.map (some b.block))] ++ Array.map a.eval args).extract 1 : Array Value) = ((Value.map (some b.block)) :: args.toList.map a.eval).toArray := by
     apply Array.toList_inj.1
     simp
     exact List.take_of_length_le (by simp)
    simp only [callMethod, Sem.run_bind, run_program, Result.andThen_ok, hm.run b.block w]
    rw [harr]
    exact hc.fn _ _
   unfold Oper.wp
   rw [hrun]
   refine (hc.run F B w0 m w (.map (some b.block) :: args.toList.map a.eval) H ⟨(VR.of0 rfl).2 ⟨b, hb, rfl⟩, hvs⟩).mono ?_
   rintro e w' ⟨m', v, c, h', n', rfl, hm, hv, H', hk⟩
   exact ⟨m', v, c, h', n', hm, rfl, hv, H', hk⟩
 · exact h2.elim
def isVal (T : Tab) : Op → Bool
 | .build .. => true
 | o => isPure T o
def vcVal (P : Program) (T : Tab) (t : TM) (hp : HP) (o : Op) (K : Value → Prop) : Prop :=
 match o with
 | .build ty parts => vcBuild T t ty parts.toList K
 | o => vcPure P T t hp o K
theorem vcVal_ok {P : Program} {T : Tab} (hT : TabOk P T) {t : TM} {hp : HP} {o : Oper} {K : Value → Prop} (h : vcVal P T t hp o.op K) : ∃ v, K v ∧ POk P t hp o v := by
 unfold vcVal at h
 split at h
 · rename_i ho; exact vcBuild_ok hT ho h
 · exact vcPure_ok hT h
def vcEff (P : Program) (T : Tab) (t : TM) (h : HP) (n : Nat) (o : Op) (K : Value → HP → Nat → Prop) : Prop :=
 match o with
 | .store ty x y => onS (ev t x) fun p => onS (ev t y) fun v => vcStore T h ty p v fun h => K undef h n
 | .mapUpdate mT x y z => onS (ev t x) fun m => onS (ev t y) fun k => onS (ev t z) fun v => vcMapUp T h mT m k v fun h => K undef h n
 | .makeMap _ r => match r with | none => vcMakeMap h n K | some _ => False
 | .alloc ty => vcAlloc T h n ty K
 | .box ty x => onS (ev t x) fun v => vcBox h n ty v K
 | .buildSlice ty len parts => vcBuildSlice T t h n ty len parts.toList K
 | .makeSlice ty x y => onS (ev t x) fun vl => onS (ev t y) fun vc => vcMake T h n ty vl vc K
 | .convert src dst x => onS (ev t x) fun v => vcBytes T h n src dst v K
 | .call c => match c.callee with
  | .builtin .append => evL t c.args.toList fun vs => vcAppend T h n c.argTypes vs K
  | .builtin .delete => evL t c.args.toList fun vs => vcDelete T h c.argTypes vs fun h => K (.tuple #[]) h n
  | .value f => onS (ev t f) fun f => evL t c.args.toList fun vs => vcCall P h n f vs K
  | .invoke x name => onS (ev t x) fun r => evL t c.args.toList fun vs => vcInvoke P h n r name vs K
  | _ => False
 | _ => False
theorem vcEff_ok {P : Program} {T : Tab} (hT : TabOk P T) {t : TM} {h : HP} {n : Nat} {o : Oper} {K : Value → HP → Nat → Prop} (hv : vcEff P T t h n o.op K) : EOk P t h n o K := by
 unfold vcEff at hv
 split at hv
 · rename_i ho
   obtain ⟨p, hp, h2⟩ := onS_ok hv
   obtain ⟨v, hv', h3⟩ := onS_ok h2
   exact vcStore_ok hT ho hp hv' h3
 · rename_i ho
   obtain ⟨p, hp, h2⟩ := onS_ok hv
   obtain ⟨k, hk', h3⟩ := onS_ok h2
   obtain ⟨v, hv', h4⟩ := onS_ok h3
   exact vcMapUp_ok hT ho hp hk' hv' h4
 · rename_i r ho
   cases r with
   | none => exact vcMakeMap_ok ho hv
   | some _ => exact hv.elim
 · rename_i ho; exact vcAlloc_ok hT ho hv
 · rename_i ho
   obtain ⟨v, hv', h3⟩ := onS_ok hv
   exact vcBox_ok ho hv' h3
 · rename_i ho; exact vcBuildSlice_ok hT ho hv
 · rename_i ho
   obtain ⟨p, hp, h2⟩ := onS_ok hv
   obtain ⟨v, hv', h3⟩ := onS_ok h2
   exact vcMake_ok hT ho hp hv' h3
 · rename_i ho
   obtain ⟨v, hv', h3⟩ := onS_ok hv
   exact vcBytes_ok hT ho hv' h3
 · rename_i c ho
   obtain ⟨callee, args, ts⟩ := c
   dsimp only at hv
   split at hv
   · exact vcAppend_ok hT ho hv
   · exact vcDelete_ok hT ho hv
   · obtain ⟨v, hv', h3⟩ := onS_ok hv
     exact vcCall_ok ho hv' h3
   · obtain ⟨v, hv', h3⟩ := onS_ok hv
     exact vcInvoke_ok ho hv' h3
   · exact hv.elim
 · exact hv.elim
end Go.Proofs.YtelolcagncgfpaaGreat
