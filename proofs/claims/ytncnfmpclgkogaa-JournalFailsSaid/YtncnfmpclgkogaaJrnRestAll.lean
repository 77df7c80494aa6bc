/- journal.restore: its loop over the list from behind, the keys sorted, its contract. -/
import Derived.Test.YtncnfmpclgkogaaEngX
import Derived.OwnWalkIn
import Derived.RangeFuncNested
import Derived.RangeFuncLeaves
import Derived.Test.YtncnfmpclgkogaaBase
import Derived.Test.YtncnfmpclgkogaaProg
import Derived.Shelf.Abstract
import Derived.WalkKit
import Derived.TacticsInMore
import Derived.LoopNIn
import Derived.LoopIn
import Derived.Test.YtncnfmpclgkogaaJrnBack
import Derived.Test.YtncnfmpclgkogaaIter
import Derived.Shelf.SlIterI.Nil
import Derived.Shelf.SortM.Plain
import Derived.Shelf.SortM.SortNone
namespace Go.Proofs.Ytncnfmpclgkogaa
open Go.RowKit
set_option linter.unusedSimpArgs false
set_option linter.unusedVariables false
def noDef (o : Oper) : Bool := match o.op with | .defer _ => false | _ => true
/-- An operation within a round. -/
theorem oper_in {l k : Nat} {P : Program} {o : Oper} {a : Act} {w : World} {next : Act → World → Prop} {Q : Exit → Act → World → Prop} (hd : noDef o = true) (h : o.wp P a w next Q) : o.wpIn (Fence.wide.inRound l) k P a w next Q := by
  refine ⟨fun _ _ => trivial, ?_⟩
  rw [Oper.semAt_plain _ _ _ (fun c hc => by unfold noDef at hd; rw [hc] at hd; cases hd)]
  unfold Oper.wp at h
  generalize (execOp a.eval o).run P w = r at h
  unfold Oper.upon at h
  unfold Oper.uponIn
  split at h
  · exact h
  · exact h
  · exact h
  · refine ⟨fun e => by simp [Fence.wide] at e, ?_⟩
    exact (callsIn_wide (n := k - 1)).2 h
  · refine ⟨fun e => by simp [Fence.wide] at e, ?_⟩
    exact fun c cs _ => let ⟨v, w', r, s⟩ := h c cs; ⟨v, w', r, stepsIn_wide.2 s⟩
  · exact h
  · exact h.elim
theorem list_in {l k : Nat} {P : Program} {ops : Array Oper} {Q : Exit → Act → World → Prop} (hQ : ¬ LetsOut Q) : ∀ {r : List Oper} {a : Act} {w : World}, r.all noDef = true → wpList P ops Q r a w → wpListIn (Fence.wide.inRound l) k P ops Q r a w
  | [], a, w, _, h => h
  | o :: r, a, w, hd, h => by
    rw [List.all_cons, Bool.and_eq_true] at hd
    unfold wpList at h
    unfold wpListIn
    by_cases hw : Region.wanted o (yielded ops a.tmps) = true
    · rw [if_pos hw] at h ⊢
      rcases h with h | ⟨_, h⟩
      · exact oper_in hd.1 (Oper.wp_mono (fun a' w' h' => list_in hQ hd.2 h') h)
      · exact absurd h hQ
    · rw [if_neg hw] at h ⊢
      exact ⟨fun _ _ => trivial, list_in hQ hd.2 h⟩
/-- A region of a round. -/
theorem vc_in {P : Program} {T : Tab} (hT : TabOk P T) {N np id l k : Nat} {pl : Plans} {ops : Array Oper} (hd : ops.toList.all noDef = true) {K : TM → HP → Nat → Prop} {t : TM} {h : HP} {n : Nat}
    (hv : vc P T N np pl (.region id ops false) (fun e t h n => match e with | .normal => K t h n | _ => False) t h n) {F : Nat → Prop} {B : Nat} {w0 : World} {m : BM} {w : World} {a : Act} (H : HRel F B w0 m h n w) (ht : TD [] m N t a) :
    (Code.region id ops false).wpIn (Fence.wide.inRound l) k P (fun e a' w' => e = .normal ∧ ∃ m' t' h' n', m.le m' ∧ HRel F B w0 m' h' n' w' ∧ TD [] m' N t' a' ∧ K t' h' n') a w := by
  refine wpIn_region_list (list_in ?_ hd (vcOps_ok hT hv [] F B w0 m w a _ H ht fun m' t' h' n' a' w' hm H' ht' hk => ⟨rfl, m', t', h', n', hm, H', ht', hk⟩))
  rintro ⟨a', w', h, _⟩
  cases h
section
variable {F : Nat → Prop} {B : Nat} {w0 : World} {m : BM} {h : HP} {n : Nat} {w : World}
/-- The world moves on; what is spoken of is as it was. -/
theorem HRel.other (H : HRel F B w0 m h n w) {w' : World} (hk : Keep F B w w') (hs : ∀ i it g s b, lkH h i = some it → m i g s → it.blk g s b → w'.heap[b]? = w.heap[b]?) : HRel F B w0 m h n w' :=
  ⟨H.keep.trans hk, H.base, H.fn, H.fresh, fun i it e => let ⟨g, s, x, y⟩ := H.dom i it e; ⟨g, s, x, y.same hk.size fun b hb _ => hs i it g s b e x hb⟩, H.sep⟩
theorem HRel.lt (H : HRel F B w0 m h n w) {i : Nat} {it : Itm} {g s b : Nat} (e : lkH h i = some it) (x : m i g s) (hb : it.blk g s b) : b < w.heap.size := (H.at e x).lt hb
end
/-- A mark's block. -/
def markS (D : Nat) : Nat → Prop := fun b => b = D
def markI (D : Nat) : Itm := .abs false (markS D) (fun _ w => w.heap[D]? = some (.deferred (some [])))
theorem markI_ok {F : Nat → Prop} {B : Nat} {m : BM} {w : World} {D : Nat} (h : w.heap[D]? = some (.deferred (some []))) : ItmOk F B m w D 0 (markI D) :=
  ⟨.inr rfl, fun b hb => by rw [show b = D from hb]; exact lt_of_block h, fun e => (by cases e), fun w w' _ hs h => (hs D rfl).trans h, h⟩
abbrev markD (D : Nat) : Deferred := { target := .collected D, args := #[] }
end Go.Proofs.Ytncnfmpclgkogaa
namespace Go.Proofs.Ytncnfmpclgkogaa
open Go.RowKit Go.Shelf
set_option linter.unusedSimpArgs false
set_option linter.unusedVariables false
attribute [local go_sem] Oper.semAt_some
/-- What the closure reads: the box; the slice's cells. -/
def BwZ (Bs : Nat) (p : Option Addr) (b off len cap : Nat) (c : Nat → Int × ByteArray) (W : World) : Prop :=
  W.cell? ⟨Bs, 0, none⟩ = some (.slice p len cap) ∧ ∀ j, j < len → W.cell? ⟨b, off + j * 2, none⟩ = some (.int .i64 (c j).1) ∧ W.cell? ⟨b, off + j * 2 + 1, none⟩ = some (.string (c j).2)
/-- What has come: the last k, from behind. -/
def bwTo (len k : Nat) : List Nat := (List.range k).map fun i => len - 1 - i
theorem bwTo_succ (len k : Nat) : bwTo len (k + 1) = bwTo len k ++ [len - 1 - k] := by simp [bwTo, List.range_succ]
theorem bwTo_length (len k : Nat) : (bwTo len k).length = k := by simp [bwTo]
def bwEnc (c : Nat → Int × ByteArray) (j : Nat) : Array Value := #[.int .i64 (j : Int), .agg #[.int .i64 (c j).1, .string (c j).2]]
set_option maxRecDepth 100000 in
set_option maxHeartbeats 4000000 in
theorem bw1_in (F : Fence) (n : Nat) (hf : F.fn 73) (hro : F.round = none) (hn : 1 ≤ n) (l Bs : Nat) (p : Option Addr) (b off len cap : Nat) (hp : 0 < len → p = some ⟨b, off, none⟩) (c : Nat → Int × ByteArray) (hlen : len ≤ 1000000) (J Jx : List Nat → World → Prop)
    (hY : ∀ pre x W, J pre W → pre.length < len → YieldAt F (n - 1) Try.prog l (bwEnc c x) W fun e W' =>
      (e = .returned (.bool true) ∧ J (pre ++ [x]) W' ∧ (BwZ Bs p b off len cap c W → BwZ Bs p b off len cap c W')) ∨ (e = .returned (.bool false) ∧ Jx (pre ++ [x]) W'))
    (W : World) (hZ : BwZ Bs p b off len cap c W) (h0 : J [] W) :
    CallsIn F n Try.prog 73 #[.func (.yield l) #[] #[], .pointer (some ⟨Bs, 0, none⟩)] W fun e W' => (∃ v, e = .returned v) ∧
      ((∃ ys, ys = bwTo len len ∧ J ys W') ∨ (∃ pre, True ∧ Jx pre W')) := by
  have hB := hZ.1
  refine callsIn_of_wp Try.func73 rfl hf ?_ hro
  simp only [Try.ntmps73, List.size_toArray, List.length_cons, List.length_nil, Nat.reduceAdd, Nat.reduceSub, Array.replicate_succ, Array.replicate_zero, List.push_toArray, List.append_toArray, List.nil_append, List.cons_append]
  gi_wp2
  gi_loopw [3] (fun i wr => ∃ k : Nat, k ≤ len ∧ i = .int .i64 ((len : Int) - 1 - k) ∧ J (bwTo len k) wr ∧ BwZ Bs p b off len cap c wr)
    (fun i _ => (intOf i + 1).toNat)
  case atStart => exact ⟨0, Nat.zero_le _, by simp, h0, hZ⟩
  case round =>
    obtain ⟨k, hk, rfl, hJs, hZ1⟩ := hrel
    have hB1 := hZ1.1
    by_cases hlt : k < len
    · obtain rfl := hp (by omega)
      have hc1 := (hZ1.2 (len - 1 - k) (by omega)).1
      have hc2 := (hZ1.2 (len - 1 - k) (by omega)).2
      obtain ⟨fn, tmps, assign, body, hy, hR⟩ := hY _ (len - 1 - k) wr hJs (by rw [bwTo_length]; exact hlt)
      have e1 : ((len - 1 - k : Nat) : Int) = (len : Int) - 1 - k := by omega
      unfold bwEnc at hy
      rw [e1] at hy
      gi_wp2
      refine hR.mono ?_
      rintro e W3 (⟨rfl, hJ3, hk3⟩ | ⟨rfl, hJx3⟩)
      · have hZ3 := hk3 hZ1
        gi_wp2
        go_roundw
        case rel => exact ⟨k + 1, by omega, by congr 1; omega, by rw [bwTo_succ]; exact hJ3, hZ3⟩
        case measure => simp [intOf]; omega
      · gi_wp2
        refine bodyPost_ret (results_none rfl _ _ _) rfl ?_
        exact ⟨⟨_, rfl⟩, .inr ⟨_, trivial, hJx3⟩⟩
    · obtain rfl : k = len := by omega
      gi_wp2
      go_end0
      exact ⟨⟨_, rfl⟩, .inl ⟨_, rfl, hJs⟩⟩
theorem BwZ.below {Bs : Nat} {p : Option Addr} {b off len cap : Nat} {c : Nat → Int × ByteArray} {n : Nat} {W W' : World} (h : BwZ Bs p b off len cap c W) (hb : ∀ k, k = Bs ∨ (k = b ∧ 0 < len) → W'.heap[k]? = W.heap[k]?) : BwZ Bs p b off len cap c W' :=
  ⟨(World.cell?_of_block (hb _ (.inl rfl))).trans h.1, fun j hj => ⟨(World.cell?_of_block (hb _ (.inr ⟨rfl, by omega⟩))).trans (h.2 j hj).1, (World.cell?_of_block (hb _ (.inr ⟨rfl, by omega⟩))).trans (h.2 j hj).2⟩⟩
/-- The closure goes through all of the slice, from behind. -/
theorem bw_stops (F : Fence) (n : Nat) (hf : F.fn 73) (hro : F.round = none) (hn : 1 ≤ n) (Bs : Nat) (p : Option Addr) (b off len cap : Nat) (hp : 0 < len → p = some ⟨b, off, none⟩) (c : Nat → Int × ByteArray) (hlen : len ≤ 1000000)
    (w : World) (hBs : Bs < w.heap.size) (hb : 0 < len → b < w.heap.size) (hZ : BwZ Bs p b off len cap c w) :
    SeqStopsK F n Try.prog 73 #[.pointer (some ⟨Bs, 0, none⟩)] (bwEnc c) (fun A B => BwZ Bs p b off len cap c A → BwZ Bs p b off len cap c B) (fun ys => ys = bwTo len len) (fun _ => True) len w := fun l J Jx W hW _ _ hY h0 =>
  bw1_in F n hf hro hn l Bs p b off len cap hp c hlen J Jx hY W (hZ.below (n := 0) fun k hk => hW.block k (by rcases hk with rfl | ⟨rfl, h⟩; exact hBs; exact hb h)) h0
end Go.Proofs.Ytncnfmpclgkogaa
namespace Go.Proofs.Ytncnfmpclgkogaa
open Go.RowKit Go.MapKept
set_option linter.unusedSimpArgs false
set_option linter.unusedVariables false
def pgc (l : List Pg) (j : Nat) : Int × ByteArray := l[j]?.getD (0, ⟨#[]⟩)
def rgM (c : Nat → Int × ByteArray) (pre : List Nat) : List Pg := pre.foldl (fun M j => putP M (c j).1 (c j).2) []
theorem rgM_snoc (c : Nat → Int × ByteArray) (pre : List Nat) (x : Nat) : rgM c (pre ++ [x]) = putP (rgM c pre) (c x).1 (c x).2 := by simp [rgM]
theorem rgM_all (l : List Pg) : rgM (pgc l) (bwTo l.length l.length) = firstM l := by
  have e : (bwTo l.length l.length).map (pgc l) = l.reverse := by
    apply List.ext_getElem
    · simp [bwTo]
    · intro i h1 h2
      have hi : i < l.length := by simpa [bwTo] using h1
      simp [bwTo, pgc, List.getElem?_eq_getElem (show l.length - 1 - i < l.length by omega), List.getElem_reverse]
  unfold rgM firstM
  rw [← List.foldl_reverse, ← e, List.foldl_map]
abbrev kvP (q : Pg) : Value := iv q.1
abbrev dvP (q : Pg) : Value := .string q.2
theorem putP_old {n : Int} {d : ByteArray} : ∀ {M : List Pg} {j : Nat}, FirstAt (M.map kvP) (iv n) j → (putP M n d).map kvP = M.map kvP ∧ (putP M n d).map dvP = (M.map dvP).set j (.string d)
  | [], j, h => by have := h.1; simp at this
  | q :: r, 0, h => by
    have h1 := h.1
    simp only [List.map_cons, List.getElem?_cons_zero, Option.some.injEq, Value.int.injEq, true_and] at h1
    unfold putP
    rw [if_pos h1]
    refine ⟨?_, rfl⟩
    simp only [List.map_cons, kvP, h1]
  | q :: r, j + 1, h => by
    have h1 : ¬ q.1 = n := fun e => h.2 0 (iv q.1) (by omega) rfl (by rw [e])
    obtain ⟨h2, h3⟩ := putP_old (M := r) (j := j) (d := d) ⟨h.1, fun a u ha hu => h.2 (a + 1) u (by omega) hu⟩
    unfold putP
    rw [if_neg h1]
    exact ⟨by rw [List.map_cons, List.map_cons, h2], by rw [List.map_cons, List.map_cons, h3]; rfl⟩
theorem putP_new {n : Int} {d : ByteArray} : ∀ {M : List Pg}, (∀ u ∈ M.map kvP, u ≠ iv n) → putP M n d = M ++ [(n, d)]
  | [], _ => rfl
  | q :: r, h => by
    unfold putP
    rw [if_neg (fun e => h (iv q.1) (by simp) (by rw [e])), putP_new (M := r) fun u hu => h u (by simp only [List.map_cons, List.mem_cons]; exact .inr hu)]
    rfl
theorem put_pages {M : List Pg} {n : Int} {d : ByteArray} : PutOb (M.map kvP) (M.map dvP) (iv n) (.string d) ((putP M n d).map kvP) ((putP M n d).map dvP) where
  kinds u hu := by obtain ⟨q, _, rfl⟩ := List.mem_map.1 hu; rfl
  len := by rw [List.length_map, List.length_map]
  old j hj := putP_old hj
  new h := by rw [putP_new h]; simp
/-- The pages, as a map. -/
def MpAt (W : World) (g : Nat) (M : List Pg) : Prop := ∃ E clk, (W.heap[g]? = some (.map E clk) ∧ MapKept.Stamped E clk) ∧ E.toList.map (fun e => e.key) = M.map kvP ∧ E.toList.map (fun e => e.val) = M.map dvP
structure RgI (g : Nat) (w : World) (c : Nat → Int × ByteArray) (pre : List Nat) (W : World) : Prop where
  keep : Keep (fun b => b = g) w.heap.size w W
  mp : MpAt W g (rgM c pre)
theorem MpAt.lt {W : World} {g : Nat} {M : List Pg} (h : MpAt W g M) : g < W.heap.size := let ⟨_, _, h, _⟩ := h; lt_of_block h.1
theorem flat_dv (M : List Pg) : ∀ u ∈ M.map dvP, flat1 u = true := fun u hu => by obtain ⟨x, _, rfl⟩ := List.mem_map.1 hu; rfl
theorem MpAt.ok {W : World} {g : Nat} {M : List Pg} (h : MpAt W g M) (F : Nat → Prop) (B : Nat) (hf : B ≤ g ∨ F g) (m : BM) : ItmOk F B m W g 0 (.mp (M.map kvP) (M.map dvP)) :=
  let ⟨E, clk, h1, h2, h3⟩ := h; ⟨rfl, hf, E, clk, h1, h2, h3 ▸ LR.refl_of fun u hu => (V1.flat (flat_dv M u (h3 ▸ hu))).2 rfl⟩
theorem MpAt.of {W : World} {g s : Nat} {M : List Pg} {F : Nat → Prop} {B : Nat} {m : BM} (h : ItmOk F B m W g s (.mp (M.map kvP) (M.map dvP))) : MpAt W g M :=
  let ⟨_, _, E, clk, h1, h2, h3⟩ := h; ⟨E, clk, h1, h2, LR.eq_of (fun u hu c hc => (V1.flat (flat_dv M u hu)).1 hc) h3⟩
def sL : Code → Code | .seq a _ => a | _ => .skip
def sR : Code → Code | .seq _ b => b | _ => .skip
def bI : Code → Code | .block _ c => c | _ => .skip
def rfX : Code → Code | .rangeFunc _ _ x _ => x | _ => .skip
def rfY : Code → Code | .rangeFunc _ _ _ y => y | _ => .skip
def opsOf : Code → Array Oper | .region _ o _ => o | _ => #[]
noncomputable def rC : Code := bodyOf Try.f35
noncomputable def rF : Code := bI (sR (sL (sR (sR rC))))
noncomputable def rX : Array Oper := opsOf (rfX rF)
noncomputable def rY : Array Oper := opsOf (bI (rfY rF))
theorem rest_code : rC = .seq (sL rC) (.seq (sL (sR rC)) (.seq (.seq (sL (sL (sR (sR rC)))) (.block 0 (.rangeFunc (.tmp 18) #[19, 20] (.region 3 rX false) (.block 1 (.region 4 rY false))))) (sR (sR (sR rC))))) := rfl
structure XK (bx : Nat) (q : Pg) (t : TM) (h : HP) : Prop where
  t7 : lkT t 7 = some (rp bx)
  t9 : lkT t 9 = some (ptr 0)
  h0 : lkH h 0 = some (.own 39 [iv q.1, .string q.2])
set_option maxRecDepth 100000 in
theorem rx_vc (bx : Nat) (q : Pg) : vc Try.prog tab 69 0 [] (.region 3 rX false) (fun e t h n => match e with | .normal => XK bx q t h | _ => False) [(7, rp bx), (20, .agg #[iv q.1, .string q.2])] [] 0 := by
  obtain ⟨n, d⟩ := q
  (repeat' ((try (conv => whnf)); first | (guard_target =~ ∃ (_ : Value), ∃ (_ : HP), ∃ (_ : HP), _; refine ⟨_, _, _, (by refine ⟨?_, ?_, ?_⟩; (first | apply rR_tuple | apply rR_one rfl | exact rfl); all_goals (repeat' (first | (with_reducible (first | exact relH_nil | apply rn_lst | apply rn_own | apply rn_mp | apply rn_row | apply rn_abs | exact wo_nil)) | apply wo_keep rfl | apply wo_drop rfl | exact relH_nil | exact r1_flat rfl | exact r0_flat rfl | exact rl_nil | exact wo_nil | exact bk_old rfl | exact bk_new rfl | exact bk_nil rfl | apply rl_cons | (fail) | exact relL_flat (flat_map (fun _ => rfl) _) | exact relL_flat flat_nil | apply relL_to | apply rn_lst | apply rn_own | apply rn_mp | apply rn_row | apply relH_view rfl | apply relH_lview rfl | apply relH_fact rfl | exact r1_rig | exact r0_rig | exact r1_rigs | exact r0_rigs | apply wo_keep rfl | apply wo_drop rfl | apply r1_agg | apply rn_ptr | apply rn_slice | apply rn_slice0 | apply rn_iface | apply rn_map | apply rn_ifacem | apply r0_map | apply r0_ifacem | apply r0_ptr | apply r0_slice | apply r0_slice0 | apply r0_iface)); (first | done | fail)), ?_⟩; (try (dsimp only [Nat.reduceAdd]))) | (fail) | (with_reducible refine chk_in (Nat.ble_eq_true_of_le (by omega)) ?_) | (with_reducible refine ifB_in ?_ ?_ <;> intro hb <;> (try simp only [decide_eq_true_eq, decide_eq_false_iff_not, Int.not_lt, Int.not_le, ne_eq, Decidable.not_not, Bool.not_eq_true', Bool.not_eq_false', gt_iff_lt, ge_iff_le] at hb) <;> (try (exfalso; omega))) | (with_reducible refine ⟨_, w64b _, ?_⟩) | (with_reducible refine ⟨_, w64 (by omega) (by omega), ?_⟩) | (with_reducible refine ⟨_, wu64 (by omega) (by omega), ?_⟩) | (with_reducible refine ⟨_, wu8 (by omega) (by omega), ?_⟩) | (with_reducible refine ⟨_, w64 (by (simp only [size_sfrom, ByteArray.size_extract, ByteArray.size_append, strOf_size, fixedL_length, lit_size, List.size_toArray, List.length_cons, List.length_nil, List.length_append, List.length_replicate]; omega)) (by (simp only [size_sfrom, ByteArray.size_extract, ByteArray.size_append, strOf_size, fixedL_length, lit_size, List.size_toArray, List.length_cons, List.length_nil, List.length_append, List.length_replicate]; omega)), ?_⟩) | (with_reducible refine ⟨_, rfl, ?_⟩) | (with_reducible refine ⟨rfl, ?_⟩) | (intro cap) | (with_reducible refine ⟨trivial, ?_⟩) | (guard_target =~ (planChk _ _ = true) ∧ _; refine ⟨by kernel_rfl, ?_⟩) | (guard_target =~ (_ ∧ _) ∧ _; refine ⟨by ((repeat (first | exact trivial | refine ⟨rfl, ?_⟩)); (first | done | fail)), ?_⟩) | (refine ⟨by omega, ?_⟩) | (refine ⟨by (simp only [size_sfrom, ByteArray.size_extract, ByteArray.size_append, strOf_size, fixedL_length, lit_size, List.size_toArray, List.length_cons, List.length_nil, List.length_append, List.length_replicate]; omega), ?_⟩) | (refine ⟨0, rfl, ?_⟩) | (refine ⟨1, rfl, ?_⟩) | (refine ⟨2, rfl, ?_⟩) | (refine ⟨3, rfl, ?_⟩) | (refine ⟨4, rfl, ?_⟩) | (refine ⟨5, rfl, ?_⟩) | (refine cell_at1 (by assumption) ?_) | (refine cell_in1 (by omega) (fun x hx => ?_)) | fail)) <;> (try (conv => whnf))
  exact ⟨rfl, rfl, rfl⟩
structure YK (M : List Pg) (q : Pg) (h : HP) : Prop where
  h0 : lkH h 0 = some (.mp ((putP M q.1 q.2).map kvP) ((putP M q.1 q.2).map dvP))
set_option maxRecDepth 100000 in
theorem ry_vc (M : List Pg) (q : Pg) : vc Try.prog tab 69 3 [] (.region 4 rY false) (fun e t h n => match e with | .normal => YK M q h | _ => False) [(7, ptr 1), (9, ptr 2)] [(2, .view [iv q.1, .string q.2]), (1, .view [.map (some 0)]), (0, .mp (M.map kvP) (M.map dvP))] 3 := by
  obtain ⟨n, d⟩ := q
  (repeat' ((try (conv => whnf)); first | (guard_target =~ ∃ (_ : Value), ∃ (_ : HP), ∃ (_ : HP), _; refine ⟨_, _, _, (by refine ⟨?_, ?_, ?_⟩; (first | apply rR_tuple | apply rR_one rfl | exact rfl); all_goals (repeat' (first | (with_reducible (first | exact relH_nil | apply rn_lst | apply rn_own | apply rn_mp | apply rn_row | apply rn_abs | exact wo_nil)) | apply wo_keep rfl | apply wo_drop rfl | exact relH_nil | exact r1_flat rfl | exact r0_flat rfl | exact rl_nil | exact wo_nil | exact bk_old rfl | exact bk_new rfl | exact bk_nil rfl | apply rl_cons | (fail) | exact relL_flat (flat_map (fun _ => rfl) _) | exact relL_flat flat_nil | apply relL_to | apply rn_lst | apply rn_own | apply rn_mp | apply rn_row | apply relH_view rfl | apply relH_lview rfl | apply relH_fact rfl | exact r1_rig | exact r0_rig | exact r1_rigs | exact r0_rigs | apply wo_keep rfl | apply wo_drop rfl | apply r1_agg | apply rn_ptr | apply rn_slice | apply rn_slice0 | apply rn_iface | apply rn_map | apply rn_ifacem | apply r0_map | apply r0_ifacem | apply r0_ptr | apply r0_slice | apply r0_slice0 | apply r0_iface)); (first | done | fail)), ?_⟩; (try (dsimp only [Nat.reduceAdd]))) | (guard_target =~ ∃ ks' vs', PutOb _ _ _ _ ks' vs' ∧ _; refine ⟨_, _, put_pages, ?_⟩) | (with_reducible refine chk_in (Nat.ble_eq_true_of_le (by omega)) ?_) | (with_reducible refine ifB_in ?_ ?_ <;> intro hb <;> (try simp only [decide_eq_true_eq, decide_eq_false_iff_not, Int.not_lt, Int.not_le, ne_eq, Decidable.not_not, Bool.not_eq_true', Bool.not_eq_false', gt_iff_lt, ge_iff_le] at hb) <;> (try (exfalso; omega))) | (with_reducible refine ⟨_, w64b _, ?_⟩) | (with_reducible refine ⟨_, w64 (by omega) (by omega), ?_⟩) | (with_reducible refine ⟨_, wu64 (by omega) (by omega), ?_⟩) | (with_reducible refine ⟨_, wu8 (by omega) (by omega), ?_⟩) | (with_reducible refine ⟨_, w64 (by (simp only [size_sfrom, ByteArray.size_extract, ByteArray.size_append, strOf_size, fixedL_length, lit_size, List.size_toArray, List.length_cons, List.length_nil, List.length_append, List.length_replicate]; omega)) (by (simp only [size_sfrom, ByteArray.size_extract, ByteArray.size_append, strOf_size, fixedL_length, lit_size, List.size_toArray, List.length_cons, List.length_nil, List.length_append, List.length_replicate]; omega)), ?_⟩) | (with_reducible refine ⟨_, rfl, ?_⟩) | (with_reducible refine ⟨rfl, ?_⟩) | (intro cap) | (with_reducible refine ⟨trivial, ?_⟩) | (guard_target =~ (planChk _ _ = true) ∧ _; refine ⟨by kernel_rfl, ?_⟩) | (guard_target =~ (_ ∧ _) ∧ _; refine ⟨by ((repeat (first | exact trivial | refine ⟨rfl, ?_⟩)); (first | done | fail)), ?_⟩) | (refine ⟨by omega, ?_⟩) | (refine ⟨by (simp only [size_sfrom, ByteArray.size_extract, ByteArray.size_append, strOf_size, fixedL_length, lit_size, List.size_toArray, List.length_cons, List.length_nil, List.length_append, List.length_replicate]; omega), ?_⟩) | (refine ⟨0, rfl, ?_⟩) | (refine ⟨1, rfl, ?_⟩) | (refine ⟨2, rfl, ?_⟩) | (refine ⟨3, rfl, ?_⟩) | (refine ⟨4, rfl, ?_⟩) | (refine ⟨5, rfl, ?_⟩) | (refine cell_at1 (by assumption) ?_) | (refine cell_in1 (by omega) (fun x hx => ?_)) | fail)) <;> (try (conv => whnf))
  exact ⟨rfl⟩
theorem TRel.none {m : BM} {N : Nat} {a : Act} (h : a.tmps.size = N) : TRel m N [] a := ⟨h, fun i v e => by cases e⟩
theorem TRel.cons {m : BM} {N : Nat} {t : TM} {a : Act} (x : TRel m N t a) {i : Nat} {v c : Value} (h : a.tmps[i]? = some c) (hv : VR m v c) : TRel m N ((i, v) :: t) a := ⟨x.size, fun j u e => by
  by_cases hj : i = j
  · subst hj
    have : v = u := by simpa [lkT] using e
    subst this; exact ⟨c, h, hv⟩
  · unfold lkT at e
    rw [beq_no hj] at e
    exact x.get j u e⟩
theorem vr_rp {m : BM} {g : Nat} : VR m (rp g) (.pointer (some ⟨g, 0, none⟩)) := (VR.of0 rfl).2 ⟨_, A0.rig1.2 rfl, rfl⟩
theorem vr_rp' {m : BM} {g : Nat} {c : Value} (h : VR m (rp g) c) : c = .pointer (some ⟨g, 0, none⟩) := by
  obtain ⟨d, hd, rfl⟩ := (VR.of0 rfl).1 h
  rw [A0.rig1.1 hd]
theorem vr_ptr0 {m : BM} {i g : Nat} (h : m i g 0) : VR m (ptr i) (.pointer (some ⟨g, 0, none⟩)) := by
  have := VR.ptr_of (A0.in (o := 0) h zero_ne_nilS)
  rwa [sh_zero] at this
/-- Behind the loop variable's box. -/
structure RgA (bx : Nat) (w : World) (c : Nat → Int × ByteArray) (x : Nat) (a' : Act) (W : World) : Prop where
  size : a'.tmps.size = 69
  ds : a'.defers = []
  t7 : a'.tmps[7]? = some (.pointer (some ⟨bx, 0, none⟩))
  pg : ∃ b, w.heap.size ≤ b ∧ a'.tmps[9]? = some (.pointer (some ⟨b, 0, none⟩)) ∧ Blk W b 39 #[iv (c x).1, .string (c x).2]
theorem Keep.same {F : Nat → Prop} {B : Nat} {w w' : World} (h : Keep F B w w') {k : Nat} (hk : k < B) (hf : ¬ F k) : w'.heap[k]? = w.heap[k]? := h.block k hk hf
theorem RgI.own (g : Nat) (w : World) (c : Nat → Int × ByteArray) (hg : g < w.heap.size) : OwnFrom w.heap.size (RgI g w c) := fun s W W' row hI hgr hr => by
  have hb : ∀ k, k < w.heap.size → W'.heap[k]? = W.heap[k]? := fun k hk => hgr.block k (Nat.lt_of_lt_of_le hk hI.keep.size) (fun e => by have := (hr k e.symm).1; omega)
  obtain ⟨E, clk, ⟨h1, h2⟩, h3⟩ := hI.mp
  exact ⟨hI.keep.trans ⟨hgr.os, hgr.tape, hgr.output, hgr.size, fun k hk _ => hb k hk⟩, E, clk, ⟨(hb g hg).trans h1, h2⟩, h3⟩
theorem RgA.own (bx : Nat) (w : World) (c : Nat → Int × ByteArray) (x : Nat) (a' : Act) : OwnFrom w.heap.size (fun (_ : Unit) W => RgA bx w c x a' W) := fun _ W W' row h hgr hr => by
  obtain ⟨b, h1, h2, h3⟩ := h.pg
  refine ⟨h.size, h.ds, h.t7, b, h1, h2, (hgr.block b h3.lt (fun e => ?_)).trans h3⟩
  obtain ⟨_, o, ho, hc⟩ := hr b e.symm
  rw [show W.heap[b]? = _ from h3] at ho
  cases ho; cases hc
set_option maxRecDepth 100000 in
theorem range_rest {w : World} {a : Act} {g bx Bs : Nat} {p : Option Addr} {b off cap : Nat} {l : List Pg} (hlen : l.length ≤ 1000000) (ha : a.tmps.size = 69) (h7 : a.tmps[7]? = some (.pointer (some ⟨bx, 0, none⟩)))
    (h18 : a.tmps[18]? = some (.func (.func 73) #[] #[.pointer (some ⟨Bs, 0, none⟩)])) (hbx : w.cell? ⟨bx, 0, none⟩ = some (.map (some g))) (hbl : bx < w.heap.size) (hbg : bx ≠ g)
    (hmp : MpAt w g []) (hBs : Bs < w.heap.size) (hBg : Bs ≠ g) (hp : 0 < l.length → p = some ⟨b, off, none⟩) (hb : 0 < l.length → b < w.heap.size ∧ b ≠ g) (hZ : BwZ Bs p b off l.length cap (pgc l) w) {Q : Exit → Act → World → Prop}
    (hdone : ∀ D W, w.heap.size ≤ D → RgI g w (pgc l) (bwTo l.length l.length) W → W.heap[D]? = some (.deferred (some [])) → Q .normal { a with defers := markD D :: a.defers } W) :
    (Code.rangeFunc (.tmp 18) #[19, 20] (.region 3 rX false) (.block 1 (.region 4 rY false))).wp Try.prog Q a w := by
  have hgl := hmp.lt
  refine (wpIn_wide (n := 2)).1 ?_
  refine wpIn_rangeFunc_ownH (F := Fence.wide) rfl (by omega) (gf := 73) (lb := #[.pointer (some ⟨Bs, 0, none⟩)]) (by show a.tmps.getD 18 undef = _; rw [Array.getD_eq_getD_getElem?, h18]; rfl) trivial (enters_of Try.func73 (by kernel_rfl) rfl)
    (bw_stops Fence.wide 1 trivial rfl (by omega) Bs p b off l.length cap hp (pgc l) hlen w hBs (fun h => (hb h).1) hZ) (fun h k => fun z => k (h z)) ?_ (Below.refl _ _) (fun _ => rfl)
    (RgI g w (pgc l)) (fun _ _ _ => False) (RgI.own g w (pgc l) hgl) (fun _ _ _ _ _ hs _ _ => hs) ⟨Keep.refl _ _ _, hmp⟩ (RgA bx w (pgc l)) (RgA.own bx w (pgc l)) ?assign ?body ?done ?stop
  · intro W k o o' hk ho h1 h2 z
    exact z.below (n := 0) fun j hj => World.putObj_heap_other (by rcases hj with rfl | ⟨rfl, hl⟩; omega; have := (hb hl).1; omega)
  case assign =>
    intro lp pre x W K hI hK
    have hpx : pgc l x = ((pgc l x).1, (pgc l x).2) := rfl
    refine wpIn_mono (vc_in tabOk (by rfl) (rx_vc bx (pgc l x)) (HRel.start W) ⟨((TRel.none ?_).cons (i := 20) (c := .agg #[iv (pgc l x).1, .string (pgc l x).2]) ?_ (VR.same rfl)).cons (i := 7) ?_ vr_rp, rfl⟩) ?_
    · simp [bwEnc, ha]
    · simp [bwEnc, ha]
    · simpa [bwEnc] using h7
    · rintro e a' W' ⟨rfl, m', t', h', n', hm, H', ht', hk⟩
      obtain ⟨c7, e7, v7⟩ := ht'.r.get 7 _ hk.t7
      obtain ⟨c9, e9, v9⟩ := ht'.r.get 9 _ hk.t9
      obtain rfl := vr_rp' v7
      obtain ⟨d9, hd9, rfl⟩ := VR.ptr v9
      obtain ⟨g9, s9, hg9, _, rfl⟩ := hd9.old
      obtain ⟨rfl, hfen, cl, hcl, hblk⟩ := H'.at hk.h0 hg9
      have hge : W.heap.size ≤ g9 := hfen.resolve_right id
      obtain rfl : cl = [iv (pgc l x).1, .string (pgc l x).2] := LR.eq_of (fun u hu c hc => (V1.flat (by rcases List.mem_cons.1 hu with rfl | hu; rfl; rcases List.mem_cons.1 hu with rfl | hu; rfl; cases hu)).1 hc) hcl
      have hB := H'.keep.below
      have hsz := hI.keep.size
      refine hK a' W' ⟨hB.size, fun k o _ hk0 _ => (hB.block k (lt_of_block hk0)).trans hk0⟩ (fun z => z.below (n := 0) fun j hj => hB.block j (by rcases hj with rfl | ⟨rfl, hl⟩; omega; have := (hb hl).1; omega)) ⟨hI.keep.trans (.of_below hB hsz), ?_⟩ ⟨ht'.r.size, ht'.ds, e7, g9, by omega, by rw [e9, sh_zero], hblk⟩
      obtain ⟨E, clk, ⟨h1, h2⟩, h3⟩ := hI.mp
      exact ⟨E, clk, ⟨(hB.block g (by omega)).trans h1, h2⟩, h3⟩
  case body =>
    intro lp pre x a' W hle _ hI hA hlt
    obtain ⟨b9, hb9, e9, hblk⟩ := hA.pg
    have hsz := hI.keep.size
    have hbx' : W.cell? ⟨bx, 0, none⟩ = some (.map (some g)) := (World.cell?_of_block (hI.keep.block bx hbl hbg)).trans hbx
    have A0 := HAcc.nil (F := fun b => b = g) (B := W.heap.size) (w0 := W) (Keep.refl _ _ _) (Nat.le_refl _)
    have A1 := A0.add g 0 (.mp ((rgM (pgc l) pre).map kvP) ((rgM (pgc l) pre).map dvP)) (hI.mp.ok _ _ (.inr rfl) _) (fun _ _ h => h)
    have A2 := A1.add bx 0 (.view [.map (some 0)]) ⟨by omega, zero_ne_nilS, [.map (some g)], ⟨(VR.of1 rfl).1 (VR.map_of (.inl (.inr ⟨rfl, rfl, rfl⟩))), trivial⟩, fun j v hj => by
      match j, hj with
      | 0, hj => cases hj; rw [sh_zero]; exact hbx'⟩ (fun q hq hU => by
        obtain ⟨_, rfl⟩ := hq
        rcases hU with h | ⟨_, h⟩
        · exact h
        · exact hbg h)
    have A3 := A2.add b9 0 (.view [iv (pgc l x).1, .string (pgc l x).2]) ⟨hblk.lt, zero_ne_nilS, [iv (pgc l x).1, .string (pgc l x).2], LR.refl_of (fun u hu => (V1.flat (by rcases List.mem_cons.1 hu with rfl | hu; rfl; rcases List.mem_cons.1 hu with rfl | hu; rfl; cases hu)).2 rfl), fun j v hj => by rw [hblk.cell, sh_zero]; simpa using hj⟩ (fun q hq hU => by
        obtain ⟨_, rfl⟩ := hq
        rcases hU with (h | ⟨_, h⟩) | ⟨_, h⟩
        · exact h
        · omega
        · omega)
    refine wpIn_block (wpIn_mono (vc_in tabOk (by rfl) (ry_vc (rgM (pgc l) pre) (pgc l x)) A3.H ⟨((TRel.none hA.size).cons (i := 9) e9 (vr_ptr0 (.inr ⟨rfl, rfl, rfl⟩))).cons (i := 7) hA.t7 (vr_ptr0 (.inl (.inr ⟨rfl, rfl, rfl⟩))), hA.ds⟩) ?_)
    rintro e a2 W' ⟨rfl, m', t', h', n', hm, H', ht', hk⟩
    have hK := H'.keep
    have hbl' : ∀ k, k < W.heap.size → k ≠ g → W'.heap[k]? = W.heap[k]? := fun k hk hg => hK.block k hk hg
    have hm0 : m' 0 g 0 := hm _ _ _ (.inl (.inl (.inr ⟨rfl, rfl, rfl⟩)))
    refine ⟨⟨hK.size, fun k o hk0 hko _ => (hbl' k (lt_of_block hko) (by omega)).trans hko⟩, fun z => z.below (n := 0) fun j hj => hbl' j (by rcases hj with rfl | ⟨rfl, hl⟩; omega; have := (hb hl).1; omega) (by rcases hj with rfl | ⟨rfl, hl⟩; exact hBg; exact (hb hl).2), ?_⟩
    refine ⟨hI.keep.trans ⟨hK.os, hK.tape, hK.output, hK.size, fun k hk hf => hbl' k (by omega) hf⟩, ?_⟩
    rw [rgM_snoc]
    exact MpAt.of (H'.at hk.h0 hm0)
  case done =>
    rintro D xs W hD rfl hI hDb
    exact hdone D W hD hI hDb
  case stop =>
    rintro D c pre W _ _ h _
    exact h.elim
end Go.Proofs.Ytncnfmpclgkogaa
namespace Go.Proofs.Ytncnfmpclgkogaa
open Go.RowKit Go.Maps Go.Sort Go.Shelf
set_option linter.unusedSimpArgs false
set_option linter.unusedVariables false
def anyK : Value → Option (DataW Unit × List MemPlace) := fun _ => some (.nil, [])
def keyI (x : MapEntry) : Int := match x.key with | .int _ a => a | _ => 0
theorem keyI_rd {x : MapEntry} (hx : ∃ a : Int, x.key = .int .i64 a ∧ (Lit.int .i64 a).wf = true) : WideElems.rd Try.prog 3 anyK x = some (.int .i64 (keyI x), .nil) := by
  obtain ⟨a, hk, ha⟩ := hx
  have h : keyOf Try.prog 3 (.int .i64 a) = some (.int .i64 a) := Go.Maps.keyOf_int_mk Try.underlying3 ha
  unfold WideElems.rd keyI
  rw [hk, h]
  rfl
set_option maxRecDepth 100000 in
theorem keysI_own {w : World} {bm clock : Nat} {es : Array MapEntry} (hb : w.heap[bm]? = some (.map es clock)) (hst : MapKept.Stamped es clock) (hk : ∀ x ∈ es.toList, ∃ a : Int, x.key = .int .i64 a ∧ (Lit.int .i64 a).wf = true) (hn : es.size ≤ maxLen) :
    w.ownsMap Try.prog 3 anyK bm es.size (.map ((es.toList.map (WideElems.rg Try.prog 3 anyK)).foldr DataW.insert [])) ∧
      (intKeys (.map ((es.toList.map (WideElems.rg Try.prog 3 anyK)).foldr DataW.insert []))).Perm (es.toList.map keyI) ∧ Maps.size (.map ((es.toList.map (WideElems.rg Try.prog 3 anyK)).foldr DataW.insert [])) = es.size := by
  refine ⟨⟨es, clock, hb, ⟨hn, hst, fun x hx => ⟨_, keyI_rd (hk x hx)⟩⟩, Nat.le_refl _, rfl⟩, ?_, ?_⟩
  · refine ((WideShapes.sorted_perm _).map _).trans ?_
    rw [List.map_map]
    refine List.Perm.of_eq (List.map_congr_left fun x hx => ?_)
    show Go.intOf (WideElems.rg _ _ _ x).1 = keyI x
    unfold WideElems.rg
    rw [keyI_rd (hk x hx)]
    rfl
  · show List.length (List.foldr DataW.insert [] _) = _
    rw [(WideShapes.sorted_perm _).length_eq, List.length_map, Array.length_toList]
theorem sortsI_in (m : Nat) : AnyZI.SortsIn Try.prog Try.iterS56_ren Fence.wide m :=
  ⟨fun blk off cap ss W hH hblk hsz => callsIn_wide.2 (AnyM.slices_Sort_int Try.iterO75 blk off cap ss W hH hblk hsz),
   fun p cap W => callsIn_wide.2 (AnyM.slices_Sort_int_none Try.iterO75 p cap W)⟩
set_option maxHeartbeats 1000000 in
set_option maxRecDepth 100000 in
theorem sortk_w (w : World) (Bm bm : Nat) (es : Array MapEntry) (clock : Nat) (hBm : Bm < w.heap.size) (hc : w.cell? ⟨Bm, 0, none⟩ = some (.map (some bm))) (hb : w.heap[bm]? = some (.map es clock)) (hst : MapKept.Stamped es clock)
    (hk : ∀ x ∈ es.toList, ∃ a : Int, x.key = .int .i64 a ∧ (Lit.int .i64 a).wf = true) (hn : es.size ≤ 1000000) :
    Calls Try.prog 56 #[.func (.func 76) #[] #[.pointer (some ⟨Bm, 0, none⟩)]] w fun e w' => ∃ (v : Value) (ss : List Int), e = .returned v ∧ ss.Perm (es.toList.map keyI) ∧
      w'.ownsRow w.heap.size 3 1 v ss.length ((ss.mergeSort leI).map encZ) ∧ Below w.heap.size w w' := by
  obtain ⟨hown, hperm, hsize⟩ := keysI_own hb hst hk (Nat.le_trans hn (by unfold maxLen; decide))
  generalize (.map ((es.toList.map (WideElems.rg Try.prog 3 anyK)).foldr DataW.insert []) : DataW Unit) = D0 at hown hperm hsize
  have hseq : SeqGives Fence.wide 2 Try.prog 76 #[.pointer (some ⟨Bm, 0, none⟩)] encZ (fun ss => ss.Perm (intKeys D0)) (Maps.size D0) w :=
    AnyZI.keys_gives (ρ := Try.iterK57_ren) { Try.iterK57 with } Fence.wide _ trivial rfl (by omega) Bm bm es.size D0 _ hBm hc hown
  have cS := AnyZI.sorted_in Try.iterS56 Fence.wide 5 trivial trivial trivial trivial rfl (by omega) (sortsI_in _) (enters_of Try.func75 (by kernel_rfl) rfl) 76 #[.pointer (some ⟨Bm, 0, none⟩)] trivial (enters_of Try.func76 (by kernel_rfl) rfl) _ _ (by rw [hsize]; unfold maxLen; omega) (by rw [hsize]; omega) _ hseq
  change CallsIn _ _ Try.prog 56 _ _ _ at cS
  refine (callsIn_wide (n := 5)).1 (cS.mono ?_)
  rintro e w' ⟨v, ss, rfl, hS, hrow, hnil, hb⟩
  exact ⟨v, ss, rfl, hS.trans hperm, hrow, hb⟩
abbrev PgK := Int × ByteArray
abbrev keyP (q : PgK) : Value := iv q.1
abbrev valP (q : PgK) : Value := .string q.2
def sortK (M : List PgK) : List Int := (M.map fun q => q.1).mergeSort leI
theorem sortK_length (M : List PgK) : (sortK M).length = M.length := by unfold sortK; rw [List.length_mergeSort, List.length_map]
theorem sortK_mem {M : List PgK} {a : Int} : a ∈ sortK M ↔ a ∈ M.map fun q => q.1 := List.mem_mergeSort
theorem sortK_le (M : List PgK) : (sortK M).Pairwise (· ≤ ·) := by
  have tr : ∀ a b c : Int, leI a b = true → leI b c = true → leI a c = true := fun a b c h1 h2 => by simp only [leI, decide_eq_true_eq] at *; exact Int.le_trans h1 h2
  have tt : ∀ a b : Int, (leI a b || leI b a) = true := fun a b => by simp only [leI, Bool.or_eq_true, decide_eq_true_eq]; exact Int.le_total a b
  exact (List.pairwise_mergeSort tr tt _).imp fun h => by simpa [leI] using h
theorem flat_ks (l : List Int) : ∀ u ∈ l.map iv, flat1 u = true := fun u hu => by obtain ⟨x, _, rfl⟩ := List.mem_map.1 hu; rfl
theorem vr_funcK {m : BM} {f i : Nat} {c : Value} (h : VR m (.func (.func f) #[] #[ptr i]) c) : ∃ g s, m i g s ∧ s ≠ nilS ∧ c = .func (.func f) #[] #[.pointer (some ⟨g, 0 + sh s, none⟩)] := by
  obtain ⟨l, hl, rfl⟩ : ∃ l', LR (V0 m) [ptr i] l' ∧ c = .func (.func f) #[] l'.toArray := (VR.of1 rfl).1 h
  match l, hl with
  | [u], ⟨hu, _⟩ =>
    obtain ⟨b, hb, e⟩ := hu
    obtain ⟨g, s, hm, hs, rfl⟩ := hb.old
    subst e
    exact ⟨g, s, hm, hs, rfl⟩
set_option maxRecDepth 100000 in
theorem sortk_c (M : List PgK) (hM : ∀ q ∈ M, 0 ≤ q.1 ∧ q.1 < 4294967296) (hlen : M.length ≤ 1000000) :
    CallOb Try.prog 56 [.func (.func 76) #[] #[ptr 0]] [(0, .own 109 [.map (some 1)]), (1, .mp (M.map keyP) (M.map valP))] 2
    (fun v h n => ∃ c : Nat, M.length ≤ c ∧ v = mslice 2 M.length c ∧ h = [(2, .lst 3 1 c ((sortK M).map iv)), (0, .own 109 [.map (some 1)]), (1, .mp (M.map keyP) (M.map valP))] ∧ n = 3) := by
  refine ⟨Try.call56, fun F B w0 m w cs H ha => ?_⟩
  match cs, ha with
  | [c], ⟨hc, _⟩ =>
    obtain ⟨g, s, hg, hs0, rfl⟩ := vr_funcK hc
    obtain ⟨rfl, _, l, hl, hblk⟩ := H.at (i := 0) rfl hg
    obtain ⟨gj, sj, hgj, rfl, _, A, clk, h1, h2, h3⟩ := H.dom 1 _ rfl
    have hcell : w.cell? ⟨g, 0, none⟩ = some (.map (some gj)) := by
      match l, hl with
      | [u], ⟨hu, _⟩ =>
        obtain ⟨b, hb, rfl⟩ : ∃ b, A0 m ⟨1, 0, none⟩ b ∧ u = .map (some b.block) := (V1.of0 rfl).1 hu
        obtain ⟨g', s', hm, _, rfl⟩ := hb.old
        obtain ⟨rfl, rfl⟩ := H.fn _ _ _ _ _ hm hgj
        rw [hblk.cell]; rfl
    have hsz : A.size = M.length := by
      have := congrArg List.length h2
      rwa [List.length_map, List.length_map, Array.length_toList] at this
    have hkeys : A.toList.map keyI = M.map fun q => q.1 := by
      have := congrArg (List.map fun v : Value => match v with | .int _ a => a | _ => 0) h2
      rw [List.map_map, List.map_map] at this
      exact this
    have hk : ∀ x ∈ A.toList, ∃ a : Int, x.key = .int .i64 a ∧ (Lit.int .i64 a).wf = true := fun x hx => by
      have hx' : x.key ∈ M.map keyP := h2 ▸ List.mem_map_of_mem (f := fun e => e.key) hx
      obtain ⟨q, hq, hxe⟩ := List.mem_map.1 hx'
      have := hM q hq
      refine ⟨q.1, hxe.symm, ?_⟩
      show (decide ((-9223372036854775808 : Int) ≤ q.1) && decide (q.1 ≤ 9223372036854775807)) = true
      rw [Bool.and_eq_true, decide_eq_true_eq, decide_eq_true_eq]
      omega
    rw [show (⟨g, 0 + sh 0, none⟩ : Addr) = ⟨g, 0, none⟩ by rw [sh_zero]]
    refine (sortk_w w g gj A clk hblk.lt hcell h1.1 h1.2 hk (by omega)).mono ?_
    rintro e w' ⟨v, ss, rfl, hperm, hrow, hbel⟩
    rw [hkeys] at hperm
    have hss : ss.mergeSort leI = sortK M := mergeSort_of_perm_i hperm
    have hlen2 : ss.length = M.length := by rw [hperm.length_eq, List.length_map]
    rw [hss, hlen2] at hrow
    rcases hrow.2 with ⟨rfl, h0⟩ | ⟨gb, c, cur, rfl, hge, hcur, r1, r2, r3, r4⟩
    · have hM0 : M = [] := List.eq_nil_of_length_eq_zero h0
      subst hM0
      have H2 := (H.later hbel).pushNilA 3 1 (wcode none)
      exact ⟨_, _, _, _, _, rfl, BM.le_put _ _ _ _, VR.nilA m 2 none, H2, 0, Nat.le_refl _, rfl, by rw [show sortK [] = [] by simp [sortK]]; rfl, rfl⟩
    · have H2 := H.push hbel (it := .lst 3 1 c ((sortK M).map iv)) hge (.inr ⟨rfl, .inl (Nat.le_trans H.base' hge), r2, (sortK M).map iv, cur, LR.refl_of (fun u hu => (V1.flat (flat_ks _ u hu)).2 rfl), hcur, r3, by rw [List.length_map, sortK_length]; simpa using r4, by rw [List.length_map, sortK_length, r3]; omega⟩) rfl
      exact ⟨_, _, _, _, _, rfl, BM.le_add _ _ _, VR.newM _ _ _ _ _, H2, c, r1, rfl, rfl, rfl⟩
end Go.Proofs.Ytncnfmpclgkogaa
namespace Go.Proofs.Ytncnfmpclgkogaa
open Go.RowKit
set_option linter.unusedSimpArgs false
set_option linter.unusedVariables false
theorem putP_ks : ∀ {M : List Pg} {n : Int} {d : ByteArray}, (putP M n d).map (fun q => q.1) = if n ∈ M.map (fun q => q.1) then M.map (fun q => q.1) else M.map (fun q => q.1) ++ [n]
  | [], n, d => by simp [putP]
  | q :: r, n, d => by
    unfold putP
    by_cases h : q.1 = n
    · rw [if_pos h]
      simp [h]
    · rw [if_neg h, List.map_cons, putP_ks (M := r)]
      have h' : ¬ n = q.1 := fun e => h e.symm
      by_cases h2 : n ∈ r.map fun q => q.1
      · rw [if_pos h2, if_pos (by simp only [List.map_cons, List.mem_cons]; exact .inr h2), List.map_cons]
      · rw [if_neg h2, if_neg (by simp only [List.map_cons, List.mem_cons]; rintro (e | e); exact h' e; exact h2 e), List.map_cons, List.cons_append]
theorem firstM_nodup : ∀ l : List Pg, ((firstM l).map fun q => q.1).Nodup
  | [] => List.Pairwise.nil
  | q :: l => by
    have ih := firstM_nodup l
    show ((putP (firstM l) q.1 q.2).map fun q => q.1).Nodup
    rw [putP_ks]
    split
    · exact ih
    · rename_i h
      rw [List.nodup_append]
      exact ⟨ih, by simp, fun a ha b hb => by rw [List.mem_singleton.1 hb]; exact fun e => h (e ▸ ha)⟩
theorem firstM_sub : ∀ {l : List Pg} {q : Pg}, q ∈ firstM l → q ∈ l
  | [], q, h => by cases h
  | p :: l, q, h => by
    rcases putP_mem (M := firstM l) h with h | h
    · exact h ▸ List.mem_cons_self
    · exact List.mem_cons_of_mem _ (firstM_sub h)
theorem firstM_len : ∀ l : List Pg, (firstM l).length ≤ l.length
  | [] => Nat.le_refl _
  | q :: l => by
    have ih := firstM_len l
    have h : ((putP (firstM l) q.1 q.2).map fun q => q.1).length ≤ (firstM l).length + 1 := by rw [putP_ks]; split <;> simp
    rw [List.length_map] at h
    show (putP (firstM l) q.1 q.2).length ≤ l.length + 1
    omega
theorem lookP_first : ∀ {M : List Pg} {n : Int} {j : Nat} {v : Value}, FirstAt (M.map kvP) (iv n) j → (M.map dvP)[j]? = some v → v = .string (lookP M n)
  | [], n, j, v, h, hv => by simp at hv
  | q :: r, n, 0, v, h, hv => by
    have h1 := h.1
    simp only [List.map_cons, List.getElem?_cons_zero, Option.some.injEq, Value.int.injEq, true_and] at h1
    simp only [List.map_cons, List.getElem?_cons_zero, Option.some.injEq] at hv
    rw [← hv]
    unfold lookP
    rw [List.find?_cons, show (q.1 == n) = true from by simpa using h1]
    rfl
  | q :: r, n, j + 1, v, h, hv => by
    have h1 : ¬ q.1 = n := fun e => h.2 0 (iv q.1) (by omega) rfl (by rw [e])
    have := lookP_first (M := r) (n := n) (j := j) (v := v) ⟨h.1, fun a u ha hu => h.2 (a + 1) u (by omega) hu⟩ hv
    rw [this]
    unfold lookP
    rw [List.find?_cons, show (q.1 == n) = false from by simpa using h1]
theorem look_pages {M : List Pg} {n : Int} {Kf : Value → Prop} {Kn : Prop} (h1 : ∀ s, s = lookP M n → Kf (.string s)) (h2 : ((M.map fun q => q.1).contains n = false) → Kn) : LookOb (M.map kvP) (M.map dvP) (iv n) Kf Kn where
  kinds u hu := by obtain ⟨q, _, rfl⟩ := List.mem_map.1 hu; rfl
  len := by rw [List.length_map, List.length_map]
  found j v hj hv := by rw [lookP_first hj hv]; exact h1 _ rfl
  none h := h2 (by
    rw [List.contains_eq_mem, decide_eq_false_iff_not]
    intro hm
    obtain ⟨q, hq, e⟩ := List.mem_map.1 hm
    exact h (iv q.1) (List.mem_map.2 ⟨q, hq, rfl⟩) (by rw [e]))
structure RS where
  i : Nat
  D : DM
  S : Nat → Prop
structure RsR (M : List Pg) (ks : List Int) (D0 : DM) (N : Int) (k : RS) : Prop where
  le : k.i ≤ ks.length
  eq : writeAll M ks D0 = writeAll M (ks.drop k.i) k.D
  ok : k.D.OkN (N + (k.i : Nat))
section
variable {M : List Pg} {ks : List Int} {D0 D D' : DM} {N : Int} {i : Nat} {S : Nat → Prop}
theorem RsR.bad (h : RsR M ks D0 N ⟨i, D, S⟩) {a : Int} (ha : ks[i]? = some a) (he : ¬ closeE 1 a (lookP M a) = 0) : writeAll M ks D0 = (closeE 1 a (lookP M a), D) := by
  obtain ⟨hlt, e⟩ := List.getElem?_eq_some_iff.1 ha
  rw [h.eq]
  show writeAll M (ks.drop i) D = _
  rw [List.drop_eq_getElem_cons hlt, e]
  unfold writeAll
  rw [if_neg he]
theorem RsR.step (h : RsR M ks D0 N ⟨i, D, S⟩) {a : Int} (ha : ks[i]? = some a) (he : closeE 1 a (lookP M a) = 0) {e : Int} (hw : (e, D') = writeD D mainN a (closeS 1 a 0 (lookP M a))) (h0 : e = 0) (S' : Nat → Prop) : RsR M ks D0 N ⟨i + 1, D', S'⟩ := by
  obtain ⟨hlt, e1⟩ := List.getElem?_eq_some_iff.1 ha
  refine ⟨hlt, ?_, ?_⟩
  · rw [h.eq]
    show writeAll M (ks.drop i) D = writeAll M (ks.drop (i + 1)) D'
    rw [List.drop_eq_getElem_cons hlt, e1]
    conv => lhs; unfold writeAll
    rw [if_pos he, ← hw]
    dsimp only
    rw [if_pos h0]
  · have := write_okN h.ok mainN a (closeS 1 a 0 (lookP M a))
    rw [← hw] at this
    exact this.mono (by dsimp only; omega)
theorem RsR.err (h : RsR M ks D0 N ⟨i, D, S⟩) {a : Int} (ha : ks[i]? = some a) (he : closeE 1 a (lookP M a) = 0) {e : Int} (hw : (e, D') = writeD D mainN a (closeS 1 a 0 (lookP M a))) (h0 : ¬ e = 0) : writeAll M ks D0 = (e, D') := by
  obtain ⟨hlt, e1⟩ := List.getElem?_eq_some_iff.1 ha
  rw [h.eq]
  show writeAll M (ks.drop i) D = _
  rw [List.drop_eq_getElem_cons hlt, e1]
  unfold writeAll
  rw [if_pos he, ← hw]
  dsimp only
  rw [if_neg h0]
theorem RsR.fin (h : RsR M ks D0 N ⟨i, D, S⟩) (hi : ¬ i < ks.length) : writeAll M ks D0 = (0, D) := by
  rw [h.eq]
  show writeAll M (ks.drop i) D = _
  rw [List.drop_eq_nil_of_le (by omega)]
  rfl
end
theorem resR_of {l : List Pg} {D D' : DM} {p N e : Int} (hok : D'.OkN (N + 20000)) (h : (e, D') = restoreD p (firstM l) (sortK (firstM l)) D) : ResR D p l N e D' := by
  refine ⟨hok, sortK (firstM l), ?_, fun a => sortK_mem, h⟩
  have hnd : (sortK (firstM l)).Nodup := (List.mergeSort_perm _ _).nodup_iff.2 (firstM_nodup l)
  exact ((sortK_le (firstM l)).and hnd).imp fun ⟨h1, h2⟩ => by omega
theorem resR_of' {l : List Pg} {M : List Pg} {D D' : DM} {p N e : Int} (hM : M = firstM l) (hok : D'.OkN (N + 20000)) (h : (e, D') = restoreD p M (sortK M) D) : ResR D p l N e D' := by
  subst hM
  exact resR_of hok h
theorem rest_err {M : List Pg} {ks : List Int} {D D' : DM} {p e : Int} (h : writeAll M ks D = (e, D')) (he : ¬ e = 0) : (e, D') = restoreD p M ks D := by
  unfold restoreD
  rw [h]
  dsimp only
  rw [if_pos he]
theorem rest_cut {M : List Pg} {ks : List Int} {D D1 D' : DM} {p e : Int} (h : writeAll M ks D = (0, D1)) (hp : p < sizeD D1 mainN) (hc : (e, D') = cutD D1 mainN p) (he : ¬ e = 0) : (e, D') = restoreD p M ks D := by
  unfold restoreD
  rw [h]
  dsimp only
  rw [if_neg (by simp), if_pos hp, ← hc, if_pos he]
theorem rest_end {M : List Pg} {ks : List Int} {D D1 D2 : DM} {p : Int} (h : writeAll M ks D = (0, D1)) (hc : (0, D2) = if p < sizeD D1 mainN then cutD D1 mainN p else (0, D1)) : restoreD p M ks D = if sizeD D2 mainN < 0 then (0, D2) else syncD D2 mainN := by
  unfold restoreD
  rw [h]
  dsimp only
  rw [if_neg (by simp), ← hc, if_neg (by simp)]
/-- Ahead of the loop over the list. -/
structure PK (p : Int) (len cap : Nat) (L : List Value) (S : Nat → Prop) (D : DM) (t : TM) (h : HP) (n : Nat) : Prop where
  t0 : lkT t 0 = some (ptr 0)
  t1 : lkT t 1 = some (iv p)
  t6 : lkT t 6 = some (iv 0)
  t7 : lkT t 7 = some (ptr 3)
  t18 : lkT t 18 = some (.func (.func 73) #[] #[ptr 4])
  h0 : lkH h 0 = some (diskI S D)
  h1 : lkH h 1 = some (.lview L)
  h2 : lkH h 2 = some (.mp [] [])
  h3 : lkH h 3 = some (.own 109 [.map (some 2)])
  h4 : lkH h 4 = some (.own 32 [mslice 1 len cap])
  n : n = 5
inductive RK (p : Int) (l : List Pg) (N : Int) (D : DM) (Dm : Nat) (t : TM) (h : HP) (n : Nat) : Prop
  | go (e : Int) (D' : DM) (S' : Nat → Prop) (h6 : lkT t 6 = some (iv e)) (h0 : lkH h 0 = some (diskI S' D')) (h5 : lkH h 5 = some (markI Dm)) (hn : n ≤ 400) (hr : ResR D p l N e D') : RK p l N D Dm t h n
  | no (hx : False) : RK p l N D Dm t h n
attribute [local irreducible] numOf fixedL bytesOf strOf strEq strLt sfrom closeS closeE layD footS writeD sizeD syncD cutD dropD readD bytesD noteJ sealJ gonJ findJ foundJ pgS newD fullS secM onD offD fs2 syncF sizO restoreD firstM ResR BackR writeAll lookP markS
set_option maxRecDepth 100000 in
theorem rest_pre (p : Int) (len cap : Nat) (L : List Value) (S : Nat → Prop) (D : DM) : vc Try.prog tab 69 2 [] (.seq (sL rC) (.seq (sL (sR rC)) (sL (sL (sR (sR rC)))))) (fun e t h n => match e with | .normal => PK p len cap L S D t h n | _ => False)
    [(0, ptr 0), (1, iv p), (2, mslice 1 len cap)] [(0, diskI S D), (1, .lview L)] 2 := by
  (repeat' ((try (conv => whnf)); first | (guard_target =~ ∃ (_ : Value), ∃ (_ : HP), ∃ (_ : HP), _; refine ⟨_, _, _, (by refine ⟨?_, ?_, ?_⟩; (first | apply rR_tuple | apply rR_one rfl | exact rfl); all_goals (repeat' (first | (with_reducible (first | exact relH_nil | apply rn_lst | apply rn_own | apply rn_mp | apply rn_row | apply rn_abs | exact wo_nil)) | apply wo_keep rfl | apply wo_drop rfl | exact relH_nil | exact r1_flat rfl | exact r0_flat rfl | exact rl_nil | exact wo_nil | exact bk_old rfl | exact bk_new rfl | exact bk_nil rfl | apply rl_cons | (first | exact relL_flat (flat_bind (f := pgv) (fun _ => rfl) _) | exact relL_flat (flat_map (fun _ => rfl) _) | first | exact relL_still hvs | exact relL_still (still_map (fun _ => rfl) _) | exact relL_still (still_map ro_still _) | exact relL_flat (flat_map (fun _ => rfl) _) | apply relL_set) | exact relL_flat (flat_map (fun _ => rfl) _) | exact relL_flat flat_nil | apply relL_to | apply rn_lst | apply rn_own | apply rn_mp | apply rn_row | apply relH_view rfl | apply relH_lview rfl | apply relH_fact rfl | exact r1_rig | exact r0_rig | exact r1_rigs | exact r0_rigs | apply wo_keep rfl | apply wo_drop rfl | apply r1_agg | apply rn_ptr | apply rn_slice | apply rn_slice0 | apply rn_iface | apply rn_map | apply rn_ifacem | apply r0_map | apply r0_ifacem | apply r0_ptr | apply r0_slice | apply r0_slice0 | apply r0_iface)); (first | done | fail)), ?_⟩; (try (dsimp only [Nat.reduceAdd, List.cons_append, List.nil_append]))) | (guard_target =~ CallOb _ 55 _ _ _ _; (with_reducible refine call_inline tabOk mixed Try.call55 Try.func55 ?_ [] ?_ ?_); exact rfl; exact Nat.le_of_ble_eq_true rfl) | (with_reducible refine chk_in (Nat.ble_eq_true_of_le (by omega)) ?_) | (with_reducible refine ifB_in ?_ ?_ <;> intro hb <;> (try simp only [decide_eq_true_eq, decide_eq_false_iff_not, Int.not_lt, Int.not_le, ne_eq, Decidable.not_not, Bool.not_eq_true', Bool.not_eq_false', gt_iff_lt, ge_iff_le] at hb) <;> (try (exfalso; omega))) | (with_reducible refine ⟨_, w64b _, ?_⟩) | (with_reducible refine ⟨_, w64 (by omega) (by omega), ?_⟩) | (with_reducible refine ⟨_, wu64 (by omega) (by omega), ?_⟩) | (with_reducible refine ⟨_, wu8 (by omega) (by omega), ?_⟩) | (with_reducible refine ⟨_, w64 (by (simp only [size_sfrom, ByteArray.size_extract, ByteArray.size_append, strOf_size, fixedL_length, lit_size, List.size_toArray, List.length_cons, List.length_nil, List.length_append, List.length_replicate]; omega)) (by (simp only [size_sfrom, ByteArray.size_extract, ByteArray.size_append, strOf_size, fixedL_length, lit_size, List.size_toArray, List.length_cons, List.length_nil, List.length_append, List.length_replicate]; omega)), ?_⟩) | (with_reducible refine ⟨_, rfl, ?_⟩) | (with_reducible refine ⟨rfl, ?_⟩) | (intro cap) | (with_reducible refine ⟨trivial, ?_⟩) | (guard_target =~ (planChk _ _ = true) ∧ _; refine ⟨by kernel_rfl, ?_⟩) | (guard_target =~ (_ ∧ _) ∧ _; refine ⟨by ((repeat (first | exact trivial | refine ⟨rfl, ?_⟩)); (first | done | fail)), ?_⟩) | (refine ⟨by omega, ?_⟩) | (refine ⟨by (simp only [size_sfrom, ByteArray.size_extract, ByteArray.size_append, strOf_size, fixedL_length, lit_size, List.size_toArray, List.length_cons, List.length_nil, List.length_append, List.length_replicate]; omega), ?_⟩) | (refine ⟨0, rfl, ?_⟩) | (refine ⟨1, rfl, ?_⟩) | (refine ⟨2, rfl, ?_⟩) | (refine ⟨3, rfl, ?_⟩) | (refine ⟨4, rfl, ?_⟩) | (refine ⟨5, rfl, ?_⟩) | (refine cell_at1 (by assumption) ?_) | (refine cell_in1 (by omega) (fun x hx => ?_)) | fail)) <;> (try (conv => whnf))
  exact ⟨rfl, rfl, rfl, rfl, rfl, rfl, rfl, rfl, rfl, rfl, rfl⟩
theorem lk_in {M : List Pg} {a : Int} {i : Nat} (h : (sortK M)[i]? = some a) : a ∈ M.map fun q => q.1 := sortK_mem.1 (List.mem_of_getElem? h)
theorem lk_no {M : List Pg} {a : Int} {i : Nat} (h : (sortK M)[i]? = some a) (hN : (M.map fun q => q.1).contains a = false) : False := by
  rw [List.contains_eq_mem, decide_eq_false_iff_not] at hN
  exact hN (lk_in h)
theorem lk_lt {M : List Pg} {a : Int} {i : Nat} (hM : ∀ q ∈ M, 0 ≤ q.1 ∧ q.1 < 4294967296) (h : (sortK M)[i]? = some a) : 0 ≤ a ∧ a < 4294967296 := by
  obtain ⟨q, hq, rfl⟩ := List.mem_map.1 (lk_in h)
  exact hM q hq
set_option maxRecDepth 100000 in
theorem rest_post (p : Int) (hp : 0 ≤ p ∧ p ≤ 4096) (l : List Pg) (M : List Pg) (hM : M = firstM l) (hMb : ∀ q ∈ M, 0 ≤ q.1 ∧ q.1 < 4294967296) (hMl : M.length ≤ 16384) (S : Nat → Prop) (D : DM) (N : Int) (hD : D.OkN N) (hN : N ≤ 900000) (Dm : Nat) :
    vc Try.prog tab 69 6 [] (sR (sR (sR rC))) (fun e t h n => match e with | .ret => RK p l N D Dm t h n | _ => False) [(0, ptr 0), (1, iv p), (6, iv 0), (7, ptr 3)] [(5, markI Dm), (2, .mp (M.map kvP) (M.map dvP)), (3, .own 109 [.map (some 2)]), (0, diskI S D)] 6 := by
  have hML : M.length ≤ 1000000 := by omega
  (repeat' ((try (conv => whnf)); first | (guard_target =~ ∃ (_ : Value), ∃ (_ : HP), ∃ (_ : HP), _; refine ⟨_, _, _, (by refine ⟨?_, ?_, ?_⟩; (first | apply rR_tuple | apply rR_one rfl | exact rfl); all_goals (repeat' (first | (with_reducible (first | exact relH_nil | apply rn_lst | apply rn_own | apply rn_mp | apply rn_row | apply rn_abs | exact wo_nil)) | apply wo_keep rfl | apply wo_drop rfl | exact relH_nil | exact r1_flat rfl | exact r0_flat rfl | exact rl_nil | exact wo_nil | exact bk_old rfl | exact bk_new rfl | exact bk_nil rfl | apply rl_cons | (first | exact relL_flat (flat_bind (f := pgv) (fun _ => rfl) _) | exact relL_flat (flat_map (fun _ => rfl) _) | first | exact relL_still hvs | exact relL_still (still_map (fun _ => rfl) _) | exact relL_still (still_map ro_still _) | exact relL_flat (flat_map (fun _ => rfl) _) | apply relL_set) | exact relL_flat (flat_map (fun _ => rfl) _) | exact relL_flat flat_nil | apply relL_to | apply rn_lst | apply rn_own | apply rn_mp | apply rn_row | apply relH_view rfl | apply relH_lview rfl | apply relH_fact rfl | exact r1_rig | exact r0_rig | exact r1_rigs | exact r0_rigs | apply wo_keep rfl | apply wo_drop rfl | apply r1_agg | apply rn_ptr | apply rn_slice | apply rn_slice0 | apply rn_iface | apply rn_map | apply rn_ifacem | apply r0_map | apply r0_ifacem | apply r0_ptr | apply r0_slice | apply r0_slice0 | apply r0_iface)); (first | done | fail)), ?_⟩; (try (dsimp only [Nat.reduceAdd, List.cons_append, List.nil_append]))) | (guard_target =~ CallOb _ 57 _ _ _ _; (with_reducible refine call_inline tabOk mixed Try.call57 Try.func57 ?_ [] ?_ ?_); exact rfl; exact Nat.le_of_ble_eq_true rfl) | (guard_target =~ CallOb _ 56 _ _ _ _; refine call_q (sortk_c M hMb hML) [(0, some 6), (1, some 2)] (by have nw := True.intro; (repeat' (first | exact True.intro | (with_reducible exact rfl) | (with_reducible exact AbsLe.refl) | (guard_target =~ @Eq Nat _ _; first | exact rfl | omega) | (guard_target =~ List.map _ _ = []; exact rfl) | (first | (guard_target =~ @Eq (List Value) _ _; exact rfl) | exact covL_of rfl (flat_bind (f := pgv) (fun _ => rfl) _) | exact covL_of rfl (flat_map (fun _ => rfl) _) | first | exact covL_still rfl hvs | exact covL_still rfl (still_map (fun _ => rfl) _) | exact covL_still rfl (still_map ro_still _) | (apply covL_set <;> (try clear nw) <;> have nw := True.intro) | exact congrArg (Value.int _) (by (try dsimp only); omega)) | (exact congrArg (Value.int _) (by omega)) | (exact covL_flat (flat_map (fun _ => rfl) _)) | (exact covL_flat flat_nil) | (refine covP_all ?_; (try clear nw); have nw := True.intro) | (refine covL_each ?_; (try clear nw); have nw := True.intro) | (refine ⟨?_, ?_⟩ <;> (try clear nw) <;> have nw := True.intro) | (guard_hyp nw : True; ((conv => whnf) <;> clear nw)))); (first | done | fail)) (by rfl) (by rfl) (by rfl) (fun v h1 n1 hp => ?_); obtain ⟨cs, hcs, rfl, rfl, rfl⟩ := hp; (try (dsimp only [Nat.reduceAdd, List.cons_append, List.nil_append]))) | (guard_target =~ LoopOb _ _ _ _ _ _ _ _; refine loop_rule tabOk mixed [] 7 (fun k : RS => [(0, ptr 0), (1, iv p), (7, ptr 3), (28, mslice 6 M.length cs), (29, iv ((M.length : Nat) : Int)), (30, iv ((k.i : Nat) : Int))]) (fun k => [(5, markI Dm), (2, .mp (M.map kvP) (M.map dvP)), (3, .own 109 [.map (some 2)]), (6, .lst 3 1 cs ((sortK M).map iv)), (0, diskI k.S k.D)]) (fun k => M.length - k.i) (fun k => RsR M (sortK M) D N k) ⟨0, D, S⟩ ⟨Nat.zero_le _, rfl, hD.mono (by dsimp only; omega)⟩ ⟨[(6, some 9)], Sub.q (by have nw := True.intro; (repeat' (first | exact True.intro | (with_reducible exact rfl) | (with_reducible exact AbsLe.refl) | (guard_target =~ @Eq Nat _ _; first | exact rfl | omega) | (guard_target =~ List.map _ _ = []; exact rfl) | (first | (guard_target =~ @Eq (List Value) _ _; exact rfl) | exact covL_of rfl (flat_bind (f := pgv) (fun _ => rfl) _) | exact covL_of rfl (flat_map (fun _ => rfl) _) | first | exact covL_still rfl hvs | exact covL_still rfl (still_map (fun _ => rfl) _) | exact covL_still rfl (still_map ro_still _) | (apply covL_set <;> (try clear nw) <;> have nw := True.intro) | exact congrArg (Value.int _) (by (try dsimp only); omega)) | (exact congrArg (Value.int _) (by omega)) | (exact covL_flat (flat_map (fun _ => rfl) _)) | (exact covL_flat flat_nil) | (refine covP_all ?_; (try clear nw); have nw := True.intro) | (refine covL_each ?_; (try clear nw); have nw := True.intro) | (refine ⟨?_, ?_⟩ <;> (try clear nw) <;> have nw := True.intro) | (guard_hyp nw : True; ((conv => whnf) <;> clear nw)))); (first | done | fail)) (by rfl) (by rfl)⟩ (fun k hk => ?_)) | (guard_hyp k : RS; rcases k with ⟨i, D1, S1⟩; dsimp only at hk ⊢; have hki := hk.le; have hko := hk.ok; rw [sortK_length] at hki; dsimp only at hki hko; have mk0 : 1 = 1 := rfl) | (refine cell_in1 (l := sortK M) (i := i) (by rw [sortK_length]; omega) (fun a ha => ?_); have hab := lk_lt hMb ha) | (guard_target =~ LookOb _ _ _ _ _; refine look_pages (fun sg hsg => ?_) (fun hN => False.elim (lk_no ha hN))) | (guard_target =~ CallOb _ 38 _ _ _ _; have hcl := fun w => close_any 1 a 0 sg w (by unfold U64; omega); obtain ⟨ss, hss⟩ : ∃ ss, ss = closeS 1 a (Int.toNat 0) sg := ⟨_, rfl⟩; obtain ⟨es, hes⟩ : ∃ es, es = closeE 1 a sg := ⟨_, rfl⟩; rw [← hss, ← hes] at hcl; (with_reducible refine call_pure Try.call38 (hcl) ?_ ?_ ?_); exact rfl; exact rfl) | (guard_target =~ CallOb _ 33 _ _ _ _; refine call_q (write_c S1 D1 (up_ok hko (by omega)) mainN a ss (by omega)) [(0, some 0)] (by have nw := True.intro; (repeat' (first | exact True.intro | (with_reducible exact rfl) | (with_reducible exact AbsLe.refl) | (guard_target =~ @Eq Nat _ _; first | exact rfl | omega) | (guard_target =~ List.map _ _ = []; exact rfl) | (first | (guard_target =~ @Eq (List Value) _ _; exact rfl) | exact covL_of rfl (flat_bind (f := pgv) (fun _ => rfl) _) | exact covL_of rfl (flat_map (fun _ => rfl) _) | first | exact covL_still rfl hvs | exact covL_still rfl (still_map (fun _ => rfl) _) | exact covL_still rfl (still_map ro_still _) | (apply covL_set <;> (try clear nw) <;> have nw := True.intro) | exact congrArg (Value.int _) (by (try dsimp only); omega)) | (exact congrArg (Value.int _) (by omega)) | (exact covL_flat (flat_map (fun _ => rfl) _)) | (exact covL_flat flat_nil) | (refine covP_all ?_; (try clear nw); have nw := True.intro) | (refine covL_each ?_; (try clear nw); have nw := True.intro) | (refine ⟨?_, ?_⟩ <;> (try clear nw) <;> have nw := True.intro) | (guard_hyp nw : True; ((conv => whnf) <;> clear nw)))); (first | done | fail)) (by rfl) (by rfl) (by rfl) (fun v h1 n1 hp => ?_); obtain ⟨ew, D2, S2, hw, rfl, rfl, rfl⟩ := hp; have hk2 := write_okN hko mainN a ss; rw [← hw] at hk2; dsimp only at hk2; (try (dsimp only [Nat.reduceAdd, List.cons_append, List.nil_append]))) | (guard_target =~ CallOb _ 20 _ _ _ _; guard_hyp mk0 : 1 = 1; clear mk0; refine call_q (size_k S1 D1 (up_ok hko (by omega)) mainN) [(0, some 0)] (by have nw := True.intro; (repeat' (first | exact True.intro | (with_reducible exact rfl) | (with_reducible exact AbsLe.refl) | (guard_target =~ @Eq Nat _ _; first | exact rfl | omega) | (guard_target =~ List.map _ _ = []; exact rfl) | (first | (guard_target =~ @Eq (List Value) _ _; exact rfl) | exact covL_of rfl (flat_bind (f := pgv) (fun _ => rfl) _) | exact covL_of rfl (flat_map (fun _ => rfl) _) | first | exact covL_still rfl hvs | exact covL_still rfl (still_map (fun _ => rfl) _) | exact covL_still rfl (still_map ro_still _) | (apply covL_set <;> (try clear nw) <;> have nw := True.intro) | exact congrArg (Value.int _) (by (try dsimp only); omega)) | (exact congrArg (Value.int _) (by omega)) | (exact covL_flat (flat_map (fun _ => rfl) _)) | (exact covL_flat flat_nil) | (refine covP_all ?_; (try clear nw); have nw := True.intro) | (refine covL_each ?_; (try clear nw); have nw := True.intro) | (refine ⟨?_, ?_⟩ <;> (try clear nw) <;> have nw := True.intro) | (guard_hyp nw : True; ((conv => whnf) <;> clear nw)))); (first | done | fail)) (by rfl) (by rfl) (by rfl) (fun v h1 n1 hp => ?_); obtain ⟨sz1, S2, hz1, rfl, rfl, rfl⟩ := hp; have hfin := hk.fin (by rw [sortK_length]; omega); (try (dsimp only [Nat.reduceAdd, List.cons_append, List.nil_append]))) | (guard_target =~ CallOb _ 58 _ _ _ _; refine call_q (cut_c S2 D1 (up_ok hko (by omega)) mainN p (by omega)) [(0, some 0)] (by have nw := True.intro; (repeat' (first | exact True.intro | (with_reducible exact rfl) | (with_reducible exact AbsLe.refl) | (guard_target =~ @Eq Nat _ _; first | exact rfl | omega) | (guard_target =~ List.map _ _ = []; exact rfl) | (first | (guard_target =~ @Eq (List Value) _ _; exact rfl) | exact covL_of rfl (flat_bind (f := pgv) (fun _ => rfl) _) | exact covL_of rfl (flat_map (fun _ => rfl) _) | first | exact covL_still rfl hvs | exact covL_still rfl (still_map (fun _ => rfl) _) | exact covL_still rfl (still_map ro_still _) | (apply covL_set <;> (try clear nw) <;> have nw := True.intro) | exact congrArg (Value.int _) (by (try dsimp only); omega)) | (exact congrArg (Value.int _) (by omega)) | (exact covL_flat (flat_map (fun _ => rfl) _)) | (exact covL_flat flat_nil) | (refine covP_all ?_; (try clear nw); have nw := True.intro) | (refine covL_each ?_; (try clear nw); have nw := True.intro) | (refine ⟨?_, ?_⟩ <;> (try clear nw) <;> have nw := True.intro) | (guard_hyp nw : True; ((conv => whnf) <;> clear nw)))); (first | done | fail)) (by rfl) (by rfl) (by rfl) (fun v h1 n1 hp => ?_); obtain ⟨ec, D3, S3, hc3, rfl, rfl, rfl⟩ := hp; have hk3 := cut_okN hko mainN p; rw [← hc3] at hk3; dsimp only at hk3; (try (dsimp only [Nat.reduceAdd, List.cons_append, List.nil_append]))) | (guard_target =~ CallOb _ 20 _ _ _ _; first | (guard_hyp hk3 : DM.OkN D3 _; refine call_q (size_k S3 D3 (up_ok hk3 (by omega)) mainN) [(0, some 0)] (by have nw := True.intro; (repeat' (first | exact True.intro | (with_reducible exact rfl) | (with_reducible exact AbsLe.refl) | (guard_target =~ @Eq Nat _ _; first | exact rfl | omega) | (guard_target =~ List.map _ _ = []; exact rfl) | (first | (guard_target =~ @Eq (List Value) _ _; exact rfl) | exact covL_of rfl (flat_bind (f := pgv) (fun _ => rfl) _) | exact covL_of rfl (flat_map (fun _ => rfl) _) | first | exact covL_still rfl hvs | exact covL_still rfl (still_map (fun _ => rfl) _) | exact covL_still rfl (still_map ro_still _) | (apply covL_set <;> (try clear nw) <;> have nw := True.intro) | exact congrArg (Value.int _) (by (try dsimp only); omega)) | (exact congrArg (Value.int _) (by omega)) | (exact covL_flat (flat_map (fun _ => rfl) _)) | (exact covL_flat flat_nil) | (refine covP_all ?_; (try clear nw); have nw := True.intro) | (refine covL_each ?_; (try clear nw); have nw := True.intro) | (refine ⟨?_, ?_⟩ <;> (try clear nw) <;> have nw := True.intro) | (guard_hyp nw : True; ((conv => whnf) <;> clear nw)))); (first | done | fail)) (by rfl) (by rfl) (by rfl) (fun v h1 n1 hp => ?_); obtain ⟨sz2, S4, hz2, rfl, rfl, rfl⟩ := hp; (try (dsimp only [Nat.reduceAdd, List.cons_append, List.nil_append]))) | (refine call_q (size_k S2 D1 (up_ok hko (by omega)) mainN) [(0, some 0)] (by have nw := True.intro; (repeat' (first | exact True.intro | (with_reducible exact rfl) | (with_reducible exact AbsLe.refl) | (guard_target =~ @Eq Nat _ _; first | exact rfl | omega) | (guard_target =~ List.map _ _ = []; exact rfl) | (first | (guard_target =~ @Eq (List Value) _ _; exact rfl) | exact covL_of rfl (flat_bind (f := pgv) (fun _ => rfl) _) | exact covL_of rfl (flat_map (fun _ => rfl) _) | first | exact covL_still rfl hvs | exact covL_still rfl (still_map (fun _ => rfl) _) | exact covL_still rfl (still_map ro_still _) | (apply covL_set <;> (try clear nw) <;> have nw := True.intro) | exact congrArg (Value.int _) (by (try dsimp only); omega)) | (exact congrArg (Value.int _) (by omega)) | (exact covL_flat (flat_map (fun _ => rfl) _)) | (exact covL_flat flat_nil) | (refine covP_all ?_; (try clear nw); have nw := True.intro) | (refine covL_each ?_; (try clear nw); have nw := True.intro) | (refine ⟨?_, ?_⟩ <;> (try clear nw) <;> have nw := True.intro) | (guard_hyp nw : True; ((conv => whnf) <;> clear nw)))); (first | done | fail)) (by rfl) (by rfl) (by rfl) (fun v h1 n1 hp => ?_); obtain ⟨sz2, S4, hz2, rfl, rfl, rfl⟩ := hp; (try (dsimp only [Nat.reduceAdd, List.cons_append, List.nil_append])))) | (guard_target =~ CallOb _ 25 _ _ _ _; first | (guard_hyp hk3 : DM.OkN D3 _; refine call_q (sync_c S4 D3 (up_ok hk3 (by omega)) mainN) [(0, some 0)] (by have nw := True.intro; (repeat' (first | exact True.intro | (with_reducible exact rfl) | (with_reducible exact AbsLe.refl) | (guard_target =~ @Eq Nat _ _; first | exact rfl | omega) | (guard_target =~ List.map _ _ = []; exact rfl) | (first | (guard_target =~ @Eq (List Value) _ _; exact rfl) | exact covL_of rfl (flat_bind (f := pgv) (fun _ => rfl) _) | exact covL_of rfl (flat_map (fun _ => rfl) _) | first | exact covL_still rfl hvs | exact covL_still rfl (still_map (fun _ => rfl) _) | exact covL_still rfl (still_map ro_still _) | (apply covL_set <;> (try clear nw) <;> have nw := True.intro) | exact congrArg (Value.int _) (by (try dsimp only); omega)) | (exact congrArg (Value.int _) (by omega)) | (exact covL_flat (flat_map (fun _ => rfl) _)) | (exact covL_flat flat_nil) | (refine covP_all ?_; (try clear nw); have nw := True.intro) | (refine covL_each ?_; (try clear nw); have nw := True.intro) | (refine ⟨?_, ?_⟩ <;> (try clear nw) <;> have nw := True.intro) | (guard_hyp nw : True; ((conv => whnf) <;> clear nw)))); (first | done | fail)) (by rfl) (by rfl) (by rfl) (fun v h1 n1 hp => ?_); obtain ⟨ey, D5, S5, hy, rfl, rfl, rfl⟩ := hp; have hk5 := sync_okN hk3 mainN; rw [← hy] at hk5; dsimp only at hk5; (try (dsimp only [Nat.reduceAdd, List.cons_append, List.nil_append]))) | (refine call_q (sync_c S4 D1 (up_ok hko (by omega)) mainN) [(0, some 0)] (by have nw := True.intro; (repeat' (first | exact True.intro | (with_reducible exact rfl) | (with_reducible exact AbsLe.refl) | (guard_target =~ @Eq Nat _ _; first | exact rfl | omega) | (guard_target =~ List.map _ _ = []; exact rfl) | (first | (guard_target =~ @Eq (List Value) _ _; exact rfl) | exact covL_of rfl (flat_bind (f := pgv) (fun _ => rfl) _) | exact covL_of rfl (flat_map (fun _ => rfl) _) | first | exact covL_still rfl hvs | exact covL_still rfl (still_map (fun _ => rfl) _) | exact covL_still rfl (still_map ro_still _) | (apply covL_set <;> (try clear nw) <;> have nw := True.intro) | exact congrArg (Value.int _) (by (try dsimp only); omega)) | (exact congrArg (Value.int _) (by omega)) | (exact covL_flat (flat_map (fun _ => rfl) _)) | (exact covL_flat flat_nil) | (refine covP_all ?_; (try clear nw); have nw := True.intro) | (refine covL_each ?_; (try clear nw); have nw := True.intro) | (refine ⟨?_, ?_⟩ <;> (try clear nw) <;> have nw := True.intro) | (guard_hyp nw : True; ((conv => whnf) <;> clear nw)))); (first | done | fail)) (by rfl) (by rfl) (by rfl) (fun v h1 n1 hp => ?_); obtain ⟨ey, D5, S5, hy, rfl, rfl, rfl⟩ := hp; have hk5 := sync_okN hko mainN; rw [← hy] at hk5; dsimp only at hk5; (try (dsimp only [Nat.reduceAdd, List.cons_append, List.nil_append])))) | (with_reducible refine chk_in (Nat.ble_eq_true_of_le (by omega)) ?_) | (with_reducible refine ifB_in ?_ ?_ <;> intro hb <;> (try simp only [decide_eq_true_eq, decide_eq_false_iff_not, Int.not_lt, Int.not_le, ne_eq, Decidable.not_not, Bool.not_eq_true', Bool.not_eq_false', gt_iff_lt, ge_iff_le] at hb) <;> (try (exfalso; omega))) | (with_reducible refine ⟨_, w64b _, ?_⟩) | (with_reducible refine ⟨_, w64 (by omega) (by omega), ?_⟩) | (with_reducible refine ⟨_, wu64 (by omega) (by omega), ?_⟩) | (with_reducible refine ⟨_, wu8 (by omega) (by omega), ?_⟩) | (with_reducible refine ⟨_, w64 (by (simp only [size_sfrom, ByteArray.size_extract, ByteArray.size_append, strOf_size, fixedL_length, lit_size, List.size_toArray, List.length_cons, List.length_nil, List.length_append, List.length_replicate]; omega)) (by (simp only [size_sfrom, ByteArray.size_extract, ByteArray.size_append, strOf_size, fixedL_length, lit_size, List.size_toArray, List.length_cons, List.length_nil, List.length_append, List.length_replicate]; omega)), ?_⟩) | (with_reducible refine ⟨_, rfl, ?_⟩) | (with_reducible refine ⟨rfl, ?_⟩) | (intro cap) | (with_reducible refine ⟨trivial, ?_⟩) | (guard_target =~ (planChk _ _ = true) ∧ _; refine ⟨by kernel_rfl, ?_⟩) | (guard_target =~ (_ ∧ _) ∧ _; refine ⟨by ((repeat (first | exact trivial | refine ⟨rfl, ?_⟩)); (first | done | fail)), ?_⟩) | (refine ⟨by omega, ?_⟩) | (refine ⟨by (simp only [size_sfrom, ByteArray.size_extract, ByteArray.size_append, strOf_size, fixedL_length, lit_size, List.size_toArray, List.length_cons, List.length_nil, List.length_append, List.length_replicate]; omega), ?_⟩) | (refine ⟨0, rfl, ?_⟩) | (refine ⟨1, rfl, ?_⟩) | (refine ⟨2, rfl, ?_⟩) | (refine ⟨3, rfl, ?_⟩) | (refine ⟨4, rfl, ?_⟩) | (refine ⟨5, rfl, ?_⟩) | (refine cell_at1 (by assumption) ?_) | (refine cell_in1 (by omega) (fun x hx => ?_)) | fail)) <;> (try (conv => whnf))
  all_goals first
    | (guard_hyp hb : ¬ es = 0; exact .go es D1 S1 rfl rfl rfl (Nat.le_of_ble_eq_true rfl) (resR_of' hM (hko.mono (by omega)) (rest_err (by rw [hes, hsg] at *; exact hk.bad ha hb) hb)))
    | (guard_hyp hb : ¬ ew = 0; exact .go ew D2 S2 rfl rfl rfl (Nat.le_of_ble_eq_true rfl) (resR_of' hM (hk2.mono (by omega)) (rest_err (hk.err ha (by rw [← hsg, ← hes]; exact ‹es = 0›) (by rw [← hsg]; rw [hss] at hw; exact hw) hb) hb)))
    | (guard_hyp hb : ew = 0; (refine Again.go ((⟨i + 1, D2, S2⟩ : RS)) ?_ (by (try dsimp only); omega) [(0, some 0), (2, some 2), (3, some 3), (5, some 5), (6, some 6)] (Sub.q (by have nw := True.intro; (repeat' (first | exact True.intro | (with_reducible exact rfl) | (with_reducible exact AbsLe.refl) | (guard_target =~ @Eq Nat _ _; first | exact rfl | omega) | (guard_target =~ List.map _ _ = []; exact rfl) | (first | (guard_target =~ @Eq (List Value) _ _; exact rfl) | exact covL_of rfl (flat_bind (f := pgv) (fun _ => rfl) _) | exact covL_of rfl (flat_map (fun _ => rfl) _) | first | exact covL_still rfl hvs | exact covL_still rfl (still_map (fun _ => rfl) _) | exact covL_still rfl (still_map ro_still _) | (apply covL_set <;> (try clear nw) <;> have nw := True.intro) | exact congrArg (Value.int _) (by (try dsimp only); omega)) | (exact congrArg (Value.int _) (by omega)) | (exact covL_flat (flat_map (fun _ => rfl) _)) | (exact covL_flat flat_nil) | (refine covP_all ?_; (try clear nw); have nw := True.intro) | (refine covL_each ?_; (try clear nw); have nw := True.intro) | (refine ⟨?_, ?_⟩ <;> (try clear nw) <;> have nw := True.intro) | (guard_hyp nw : True; ((conv => whnf) <;> clear nw)))); (first | done | fail)) (by rfl) (by rfl))); exact hk.step ha (by rw [← hsg, ← hes]; exact ‹es = 0›) (by rw [← hsg]; rw [hss] at hw; exact hw) hb S2)
    | (guard_hyp hb : ¬ ec = 0; exact .go ec D3 S3 rfl rfl rfl (Nat.le_of_ble_eq_true rfl) (resR_of' hM (hk3.mono (by omega)) (rest_cut hfin (hz1 ▸ ‹p < sz1›) hc3 hb)))
    | (guard_hyp hb : sz2 < 0; guard_hyp hk3 : DM.OkN D3 _; exact .go 0 D3 S4 rfl rfl rfl (Nat.le_of_ble_eq_true rfl) (resR_of' hM (hk3.mono (by omega)) (by rw [rest_end (D2 := D3) hfin (by rw [if_pos (hz1 ▸ ‹p < sz1›), ← hc3, ‹ec = 0›]), if_pos (hz2 ▸ hb)])))
    | (guard_hyp hb : 0 ≤ sz2; guard_hyp hk3 : DM.OkN D3 _; exact .go ey D5 S5 rfl rfl rfl (Nat.le_of_ble_eq_true rfl) (resR_of' hM (hk5.mono (by omega)) (by rw [rest_end (D2 := D3) hfin (by rw [if_pos (hz1 ▸ ‹p < sz1›), ← hc3, ‹ec = 0›]), if_neg (by rw [← hz2]; omega)]; exact hy)))
    | (guard_hyp hb : sz2 < 0; exact .go 0 D1 S4 rfl rfl rfl (Nat.le_of_ble_eq_true rfl) (resR_of' hM (hko.mono (by omega)) (by rw [rest_end (D2 := D1) hfin (by rw [if_neg (by rw [← hz1]; omega)]), if_pos (hz2 ▸ hb)])))
    | (guard_hyp hb : 0 ≤ sz2; exact .go ey D5 S5 rfl rfl rfl (Nat.le_of_ble_eq_true rfl) (resR_of' hM (hk5.mono (by omega)) (by rw [rest_end (D2 := D1) hfin (by rw [if_neg (by rw [← hz1]; omega)]), if_neg (by rw [← hz2]; omega)]; exact hy)))
    | trace_state
end Go.Proofs.Ytncnfmpclgkogaa
namespace Go.Proofs.Ytncnfmpclgkogaa
open Go.RowKit
set_option linter.unusedSimpArgs false
set_option linter.unusedVariables false
theorem vc_seq3 {P : Program} {T : Tab} (hT : TabOk P T) (hmix : P.follows .mixedOrders = true) {N np : Nat} {pl : Plans} {c1 c2 c3 X c4 : Code} {K : TM → HP → Nat → Prop} {t : TM} {h : HP} {n : Nat}
    (hv : vc P T N np pl (.seq c1 (.seq c2 c3)) (fun e t h n => match e with | .normal => K t h n | _ => False) t h n) {ds : List Deferred} {F : Nat → Prop} {B : Nat} {w0 : World} {m : BM} {w : World} {a : Act}
    (H : HRel F B w0 m h n w) (ht : TD ds m N t a) {Q : Exit → Act → World → Prop}
    (hX : ∀ m' t' h' n' a' w', BM.leN np m m' → HRel F B w0 m' h' n' w' → TD ds m' N t' a' → K t' h' n' → X.wp P (Exit.then (c4.wp P Q) Q) a' w') : (Code.seq c1 (.seq c2 (.seq (.seq c3 X) c4))).wp P Q a w := by
  let KK : KT := fun e t h n => match e with | .normal => K t h n | _ => False
  let K2 : KT := fun e t h n => match e with | .normal => vc P T N np pl c3 KK t h n | e => KK e t h n
  let K1 : KT := fun e t h n => match e with | .normal => vc P T N np pl (.seq c2 c3) KK t h n | e => KK e t h n
  have e1 : vc P T N np pl c1 K1 t h n := hv
  refine wp_seq (wp_mono (vc_ok hT hmix e1 ds F B w0 m w a H ht) ?_)
  rintro e a1 w1 ⟨_, m1, t1, h1, n1, hm1, H1, ht1, hk1⟩
  cases e with
  | normal =>
    have e2 : vc P T N np pl c2 K2 t1 h1 n1 := hk1
    refine wp_seq (wp_mono (vc_ok hT hmix e2 ds F B w0 m1 w1 a1 H1 ht1) ?_)
    rintro e a2 w2 ⟨_, m2, t2, h2, n2, hm2, H2, ht2, hk2⟩
    cases e with
    | normal =>
      have e3 : vc P T N np pl c3 KK t2 h2 n2 := hk2
      refine wp_seq (wp_seq (wp_mono (vc_ok hT hmix e3 ds F B w0 m2 w2 a2 H2 ht2) ?_))
      rintro e a3 w3 ⟨_, m3, t3, h3, n3, hm3, H3, ht3, hk3⟩
      cases e with
      | normal => exact hX m3 t3 h3 n3 a3 w3 (BM.leN_trans hm1 (BM.leN_trans hm2 hm3)) H3 ht3 hk3
      | exit id => exact hk3.elim
      | goto l => exact hk3.elim
      | ret => exact hk3.elim
      | panic ch => exact hk3.elim
      | outgrown => exact hk3.elim
    | exit id => exact hk2.elim
    | goto l => exact hk2.elim
    | ret => exact hk2.elim
    | panic ch => exact hk2.elim
    | outgrown => exact hk2.elim
  | exit id => exact hk1.elim
  | goto l => exact hk1.elim
  | ret => exact hk1.elim
  | panic ch => exact hk1.elim
  | outgrown => exact hk1.elim
theorem zip_rel {m : BM} {N : Nat} {args cs : List Value} (ha : LR (VR m) args cs) (hN : args.length ≤ N) : TD [] m N (zipT 0 args) { tmps := cs.toArray ++ Array.replicate (N - cs.toArray.size) undef, defers := [] } := by
  refine ⟨⟨?_, ?_⟩, rfl⟩
  · have := ha.length
    simp; omega
  · intro i v e
    obtain ⟨_, e⟩ := lkT_zip e
    obtain ⟨c, hc, hv⟩ := ha.get e
    refine ⟨c, ?_, hv⟩
    rw [Nat.sub_zero] at hc
    have hlt : i < cs.length := by
      rcases Nat.lt_or_ge i cs.length with h | h
      · exact h
      · rw [List.getElem?_eq_none h] at hc; cases hc
    rw [Array.getElem?_append_left (by simpa using hlt)]
    simpa using hc
theorem pgv_at : ∀ {l : List Pg} {j : Nat}, j < l.length → (l.flatMap pgv)[j * 2]? = some (iv (pgc l j).1) ∧ (l.flatMap pgv)[j * 2 + 1]? = some (.string (pgc l j).2)
  | q :: l, 0, _ => ⟨rfl, rfl⟩
  | q :: l, j + 1, h => by
    obtain ⟨h1, h2⟩ := pgv_at (l := l) (j := j) (by simpa using h)
    have e : pgc (q :: l) (j + 1) = pgc l j := rfl
    rw [e, List.flatMap_cons, show (j + 1) * 2 = j * 2 + 2 by omega, show j * 2 + 2 + 1 = (j * 2 + 1) + 2 by omega]
    exact ⟨h1, h2⟩
theorem HRel.big {F : Nat → Prop} {B : Nat} {w0 : World} {m : BM} {h : HP} {n n' : Nat} {w : World} (H : HRel F B w0 m h n w) (hn : n ≤ n') : HRel F B w0 m h n' w :=
  ⟨H.keep, H.base, H.fn, fun i g s x => Nat.lt_of_lt_of_le (H.fresh i g s x) hn, H.dom, H.sep⟩
/-- One block of the call's own is another now, and some are new. -/
theorem HRel.news {F : Nat → Prop} {B : Nat} {w0 : World} {m : BM} {h : HP} {n : Nat} {w W : World} (H : HRel F B w0 m h n w) {i g : Nat} {ks vs ks' vs' : List Value} (e : lkH h i = some (.mp ks vs)) (hm : m i g 0) (hk : Keep (fun b => b = g) w.heap.size w W)
    {o : Obj} (ho : W.heap[g]? = some o) (ok : ∀ W' : World, W'.heap[g]? = some o → ItmOk F B m W' g 0 (.mp ks' vs')) : ∃ W0 : World, W0.heap.size = w.heap.size ∧ Below W0.heap.size W0 W ∧ HRel F B w0 m (upH h i (.mp ks' vs')) n W0 := by
  have hg := H.at e hm
  have hlt : g < w.heap.size := by obtain ⟨_, _, _, _, hE, _⟩ := hg; exact lt_of_block hE.1
  have hs : (w.putObj g o).heap[g]? = some o := World.putObj_heap_same hlt
  refine ⟨w.putObj g o, World.putObj_size, ⟨hk.os, hk.tape, hk.output, by rw [World.putObj_size]; exact hk.size, fun k hlk => ?_⟩, H.upd e rfl rfl rfl rfl hm hg.2.1 (fun k hne => World.putObj_heap_other hne) World.putObj_size rfl rfl rfl (ok _ hs)⟩
  rw [World.putObj_size] at hlk
  by_cases hkg : k = g
  · subst hkg; rw [ho, hs]
  · rw [World.putObj_heap_other hkg]; exact hk.block k hlk hkg
theorem take_mark {P : Program} {D : Nat} {w : World} (h : w.heap[D]? = some (.deferred (some []))) : (Instr.takeDeferred D).run P w = .ok [] (w.putObj D (.deferred none)) := by
  have hlt := lt_of_block h
  have h2 : w.heap[D]'hlt = .deferred (some []) := by rw [Array.getElem?_eq_getElem hlt] at h; exact Option.some.inj h
  simp [Instr.takeDeferred, getObj, setObj, Sem.run, h2, World.putObj, hlt]
set_option maxRecDepth 100000 in
theorem restore_ob : RestoreOb := by
  unfold RestoreOb
  intro S D N hD hN p l cap hcap hlen hp hlb
  refine ⟨Try.call35, fun F B w0 m w cs H hcs => ?_⟩
  refine (callsIn_wide (n := 5)).1 (callsIn_of_wp_marks (F := Fence.wide) Try.func35 (bodyOf_eq rfl) trivial (wpIn_wide.2 ?_) rfl)
  have ht0 := zip_rel (N := 69) hcs (by simp)
  change Code.wp _ rC _ _ _
  rw [rest_code]
  refine vc_seq3 tabOk mixed (rest_pre p l.length cap (l.flatMap pgv) S D) H ht0 fun m1 t1 h1 n1 a1 w1 hm1 H1 ht1 k1 => ?_
  obtain ⟨k0, k1', k6, k7, k18, kh0, kh1, kh2, kh3, kh4, kn⟩ := k1
  subst kn
  -- where all stands
  obtain ⟨c7, e7, v7⟩ := ht1.r.get 7 _ k7
  obtain ⟨d7, hd7, rfl⟩ := VR.ptr v7
  obtain ⟨g3, s3, hm3, _, rfl⟩ := hd7.old
  obtain ⟨rfl, hf3, l3, hl3, hb3⟩ := H1.at kh3 hm3
  obtain ⟨c18, e18, v18⟩ := ht1.r.get 18 _ k18
  obtain ⟨g4, s4, hm4, _, rfl⟩ := vr_funcK v18
  obtain ⟨rfl, hf4, l4, hl4, hb4⟩ := H1.at kh4 hm4
  obtain ⟨g2, s2, hm2, ok2⟩ := H1.dom 2 _ kh2
  obtain ⟨rfl, hf2, _⟩ := ok2
  have ok2 := H1.at kh2 hm2
  have hmp : MpAt w1 g2 [] := MpAt.of (M := []) ok2
  obtain ⟨g1, s1, hm1', ok1⟩ := H1.dom 1 _ kh1
  have hlt3 := hb3.lt
  have hlt4 := hb4.lt
  have hlt2 := hmp.lt
  have hne : ∀ {i g s b : Nat} {it : Itm}, lkH h1 i = some it → i ≠ 2 → m1 i g s → it.blk g s b → b ≠ g2 := fun e hi x hb he => H1.sep 2 _ _ _ g2 0 _ _ _ kh2 rfl e (fun h => hi h.symm) hm2 x ⟨zero_ne_nilS, rfl⟩ (he ▸ hb)
  have hne3 : g3 ≠ g2 := hne kh3 (by decide) hm3 ⟨zero_ne_nilS, rfl⟩
  have hne4 : g4 ≠ g2 := hne kh4 (by decide) hm4 ⟨zero_ne_nilS, rfl⟩
  have hc3 : w1.cell? ⟨g3, 0, none⟩ = some (.map (some g2)) := by
    match l3, hl3 with
    | [u], ⟨hu, _⟩ =>
      obtain ⟨b, hb, rfl⟩ : ∃ b, A0 m1 ⟨2, 0, none⟩ b ∧ u = .map (some b.block) := (V1.of0 rfl).1 hu
      obtain ⟨g', s', hm', _, rfl⟩ := hb.old
      obtain ⟨rfl, rfl⟩ := H1.fn _ _ _ _ _ hm' hm2
      rw [hb3.cell]; rfl
  -- the list
  obtain ⟨q4, off4, hc4, hp4, hl1, hz4⟩ : ∃ (q : Option Addr) (off : Nat), w1.cell? ⟨g4, 0, none⟩ = some (.slice q l.length cap) ∧ (0 < l.length → q = some ⟨g1, off, none⟩) ∧ (0 < l.length → g1 < w1.heap.size ∧ g1 ≠ g2) ∧
      ∀ j, j < l.length → w1.cell? ⟨g1, off + j * 2, none⟩ = some (iv (pgc l j).1) ∧ w1.cell? ⟨g1, off + j * 2 + 1, none⟩ = some (.string (pgc l j).2) := by
    match l4, hl4 with
    | [u], ⟨hu, _⟩ =>
      have hcu : w1.cell? ⟨g4, 0, none⟩ = some u := by rw [hb4.cell]; rfl
      obtain ⟨g, s, hm', hx⟩ := VR.mslc.1 ((VR.of1 rfl).2 hu)
      obtain ⟨rfl, rfl⟩ := H1.fn _ _ _ _ _ hm' hm1'
      rcases hx with ⟨_, h0, hk, rfl⟩ | ⟨hs, rfl⟩
      · exact ⟨weird g, 0, by rw [hcu, h0, hk], fun h => by omega, fun h => by omega, fun j hj => by omega⟩
      · rcases ok1 with ⟨h, _⟩ | ⟨hlt1, _, L', hL', hcell⟩
        · exact absurd h hs
        · obtain rfl := LR.eq_of (fun u hu c hc => (V1.flat (flat_bind (f := pgv) (fun _ => rfl) l u hu)).1 hc) hL'
          refine ⟨_, 0 + sh s, hcu, fun _ => rfl, fun _ => ⟨hlt1, hne kh1 (by decide) hm1' ⟨hs, rfl⟩⟩, fun j hj => ?_⟩
          obtain ⟨h1, h2⟩ := pgv_at hj
          rw [Nat.zero_add]
          exact ⟨hcell _ _ h1, hcell _ _ h2⟩
  rw [sh_zero] at e7 e18
  refine wp_block (range_rest (by omega) ht1.r.size e7 e18 hc3 hlt3 hne3 hmp hlt4 hne4 hp4 hl1 ⟨hc4, hz4⟩ fun Dm W hDm hI hW => ?_)
  -- behind the loop over the list
  obtain ⟨E, clk, ⟨hE1, hE2⟩, hE3, hE4⟩ := hI.mp
  rw [rgM_all] at hE3 hE4
  obtain ⟨W0, hs0, hbel, H0⟩ := H1.news kh2 hm2 hI.keep hE1 (ks' := (firstM l).map kvP) (vs' := (firstM l).map dvP) (fun W' h => MpAt.ok ⟨E, clk, ⟨h, hE2⟩, hE3, hE4⟩ F B hf2 m1)
  have HW := H0.pushAt (g := Dm) (s := 0) (it := markI Dm) hbel (fun b hb => by rw [show b = Dm from hb, hs0]; exact hDm) (markI_ok hW)
  have HW2 := HW.sub_of (h' := [(5, markI Dm), (2, .mp ((firstM l).map kvP) ((firstM l).map dvP)), (3, .own 109 [.map (some 2)]), (0, diskI S D)]) (fun i it e => by
    have hu := fun k => lkH_up (it := .mp ((firstM l).map kvP) ((firstM l).map dvP)) (i := k) kh2
    have e' := lkH_mem e
    simp only [List.mem_cons, Prod.mk.injEq, List.not_mem_nil, or_false] at e'
    rcases e' with ⟨rfl, rfl⟩ | ⟨rfl, rfl⟩ | ⟨rfl, rfl⟩ | ⟨rfl, rfl⟩
    · rfl
    · exact (hu 2).trans (if_pos rfl)
    · exact (hu 3).trans ((if_neg (by decide)).trans kh3)
    · exact (hu 0).trans ((if_neg (by decide)).trans kh0))
  obtain ⟨c0, e0, v0⟩ := ht1.r.get 0 _ k0
  obtain ⟨c1, e1, v1⟩ := ht1.r.get 1 _ k1'
  obtain ⟨c6, e6, v6⟩ := ht1.r.get 6 _ k6
  have hle := BM.le_put m1 5 Dm 0
  have hMl := firstM_len l
  have hT : TD [markD Dm] (m1.put 5 Dm 0) 69 [(0, ptr 0), (1, iv p), (6, iv 0), (7, ptr 3)] { a1 with defers := markD Dm :: a1.defers } :=
    ⟨((((TRel.none (a := { a1 with defers := markD Dm :: a1.defers }) ht1.r.size).cons (i := 7) e7 ((vr_ptr0 hm3).mono hle)).cons (i := 6) e6 (v6.mono hle)).cons (i := 1) e1 (v1.mono hle)).cons (i := 0) e0 (v0.mono hle), by show markD Dm :: a1.defers = _; rw [ht1.ds]⟩
  refine wp_mono (vc_ok tabOk mixed (rest_post p hp l (firstM l) rfl (fun q hq => by have := hlb q (firstM_sub hq); omega) (by omega) S D N hD hN Dm) [markD Dm] F B w0 _ W _ HW2 hT) ?_
  rintro e a2 w2 ⟨_, m2, t2, h2, n2, hmm, H2, ht2, hk2⟩
  cases e with
  | ret =>
    cases hk2 with
    | no hx => exact hx.elim
    | go e' D' S' h6 h0 h5 hn hr =>
      have hm5 : m2 5 Dm 0 := hmm 5 Dm 0 (by decide) (.inr ⟨rfl, rfl, rfl⟩)
      obtain ⟨_, _, _, _, hdef⟩ := H2.at h5 hm5
      show LeavesInM _ _ _ _ _ _ a2.defers .returning w2
      rw [ht2.ds]
      refine ⟨(fun h => by cases h), .inl ⟨Dm, w2.putObj Dm (.deferred none), rfl, take_mark hdef, ?_⟩⟩
      obtain ⟨c2, ec, vc⟩ := ht2.r.get 6 _ h6
      refine ⟨_, results_tmp (t := 6) rfl _ _ _, ?_⟩
      have hB : B ≤ Dm := Nat.le_trans H1.base' hDm
      have H3 : HRel F B w0 m2 [(0, diskI S' D')] 400 (w2.putObj Dm (.deferred none)) := by
        refine ((H2.sub_of (h' := [(0, diskI S' D')]) fun i it e => ?_).other (w' := w2.putObj Dm (.deferred none)) ⟨rfl, rfl, rfl, by rw [World.putObj_size]; exact Nat.le_refl _, fun k hk _ => World.putObj_heap_other (by omega)⟩ fun i it g s b e x hb => World.putObj_heap_other fun he => ?_).big hn
        · have e' := lkH_mem e
          simp only [List.mem_cons, Prod.mk.injEq, List.not_mem_nil, or_false] at e'
          obtain ⟨rfl, rfl⟩ := e'
          exact h0
        · have e' := lkH_mem e
          simp only [List.mem_cons, Prod.mk.injEq, List.not_mem_nil, or_false] at e'
          obtain ⟨rfl, rfl⟩ := e'
          exact H2.sep 0 _ 5 _ g s Dm 0 b h0 rfl h5 (by decide) x hm5 hb he
      refine ⟨m2, iv e', _, _, 400, rfl, BM.le_trans (BM.le_of_leN H hm1) (BM.le_trans hle (BM.le_of_leN HW2 hmm)), ?_, H3, (e', D', S'), hr, rfl, rfl, rfl⟩
      rw [Array.getD_eq_getD_getElem?, ec]
      exact vc
  | normal => exact hk2.elim
  | exit id => exact hk2.elim
  | goto l => exact hk2.elim
  | panic ch => exact hk2.elim
  | outgrown => exact hk2.elim
end Go.Proofs.Ytncnfmpclgkogaa
