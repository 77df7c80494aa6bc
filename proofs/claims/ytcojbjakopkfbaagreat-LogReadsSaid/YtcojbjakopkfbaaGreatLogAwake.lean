/- The law's helpers: number, page, holds. The log's pages in their order; a log that is opened once more; awake. -/
import Derived.Test.YtcojbjakopkfbaaGreatLogMore
import Derived.Test.YtcojbjakopkfbaaGreatEngX
import Derived.OwnWalkIn
import Derived.RangeFuncNested
import Derived.RangeFuncLeaves
import Derived.Test.YtcojbjakopkfbaaGreatBase
import Derived.Test.YtcojbjakopkfbaaGreatProg
import Derived.Shelf.Abstract
import Derived.WalkKit
import Derived.TacticsInMore
import Derived.LoopNIn
import Derived.LoopIn
import Derived.Test.YtcojbjakopkfbaaGreatIter
import Derived.Shelf.SlIterI.Nil
import Derived.Shelf.SortM.Plain
import Derived.Shelf.SortM.SortNone
namespace Go.Proofs.YtcojbjakopkfbaaGreat
open Go.RowKit
set_option linter.unusedSimpArgs false
set_option linter.unusedVariables false
structure Pge (n : Nat) (b : UInt8) (L : List UInt8) (i : Nat) : Prop where
 len : L.length = n
 at' : ∀ j, j < i → L[j]? = some b
theorem Pge.set {n : Nat} {b : UInt8} {L : List UInt8} {i : Nat} (h : Pge n b L i) (hi : i < n) : Pge n b (L.set i b) (i + 1) := by
 refine ⟨by rw [List.length_set]; exact h.len, fun j hj => ?_⟩
 rw [List.getElem?_set]
 split
 · rename_i e; subst e; rw [if_pos (by rw [h.len]; exact hi)]
 · exact h.at' j (by omega)
theorem Pge.done {n : Nat} {b : UInt8} {L : List UInt8} {i : Nat} (h : Pge n b L i) (hi : n ≤ i) : L = List.replicate n b := by
 apply List.ext_getElem?
 intro j
 rcases Nat.lt_or_ge j n with hj | hj
 · rw [h.at' j (by omega), List.getElem?_replicate, if_pos hj]
 · rw [List.getElem?_eq_none (by rw [h.len]; exact hj), List.getElem?_eq_none (by rw [List.length_replicate]; exact hj)]
theorem put_byte {L : List UInt8} {i : Nat} {b : UInt8} {x : Int} (hx : x = (b.toNat : Nat)) : putL (L.map byteV') (0 + i * 1) [.int .u8 x] = (L.set i b).map byteV' := by
 subst hx
 rw [List.map_set, Nat.zero_add, Nat.mul_one]; rfl
theorem row_take {L : List UInt8} {n ty c : Nat} (h : L.length = n) : List.take n (List.drop 0 (Itm.row ty 1 c (L.map byteV')).cells) = L.map byteV' := by
 rw [List.drop_zero]; exact List.take_of_length_le (by show (L.map byteV').length ≤ n; rw [List.length_map]; omega)
theorem u8_int {b : Int} (hb : 0 ≤ b ∧ b ≤ 255) : b = ((UInt8.ofNat b.toNat).toNat : Nat) := by rw [UInt8.toNat_ofNat']; omega
structure WL where
 i : Nat
 L : List UInt8
theorem blt_len {α : Type} {L : List α} {f : α → Value} {i ty sz c : Nat} (h : i < L.length) : (0 + i * 1).blt (Itm.row ty sz c (L.map f)).cells.length = true := by
 rw [Nat.zero_add, Nat.mul_one]
 show Nat.ble (i + 1) (L.map f).length = true
 exact Nat.ble_eq_true_of_le (by rw [List.length_map]; exact h)
abbrev FT := Int × Int × Bool × Bool
abbrev ftv (y : FT) : List Value := [iv y.1, .int .u8 y.2.1, .bool y.2.2.1, .bool y.2.2.2]
attribute [local irreducible] numOf fixedL bytesOf strOf strEq strLt sfrom closeS closeE writeD sizeD syncD cutD dropD readD topS sumS sumL rightR lastM readL openL trimR addL kindL lsyncL getL lbackL lendL pgS wantS
theorem cvLogAwake1 {p : Prop} (h : p := by have nw := True.intro; (repeat' (first | exact True.intro | (with_reducible exact rfl) | (with_reducible exact AbsLe.refl) | (guard_target =~ @Eq Nat _ _; first | exact rfl | omega) | (guard_target =~ List.map _ _ = []; exact rfl) | (first | (guard_target =~ @Eq (List Value) _ _; exact rfl) | exact covL_of (noughts_cells _) (flat_map (fun _ => rfl) _) | exact covL_of (put_byte (u8_int hb8)) (flat_map (fun _ => rfl) _) | exact covL_of rfl (flat_bind (f := frv) (fun _ => rfl) _) | exact covL_of rfl (flat_bind (f := ftv) (fun _ => rfl) _) | exact covL_of rfl (flat_map (fun _ => rfl) _) | first | exact covL_still rfl hvs | exact covL_still rfl (still_map (fun _ => rfl) _) | exact covL_still rfl (still_map ro_still _) | (apply covL_set <;> (try clear nw) <;> have nw := True.intro) | exact congrArg (Value.int _) (by (try dsimp only); omega)) | (exact congrArg (Value.int _) (by omega)) | (exact covL_flat (flat_map (fun _ => rfl) _)) | (exact covL_flat flat_nil) | (refine covP_all ?_; (try clear nw); have nw := True.intro) | (refine covL_each ?_; (try clear nw); have nw := True.intro) | (refine ⟨?_, ?_⟩ <;> (try clear nw) <;> have nw := True.intro) | (guard_hyp nw : True; ((conv => whnf) <;> clear nw)))); (first | done | fail)) : p := h
theorem rnLogAwake2 {p : Prop} (h : p := by refine ⟨?_, ?_, ?_⟩; (first | apply rR_tuple | apply rR_one rfl | exact rfl); all_goals (repeat' (first | (with_reducible (first | exact relH_nil | apply rn_lst | apply rn_own | apply rn_mp | apply rn_row | apply rn_abs | exact wo_nil)) | apply wo_keep rfl | apply wo_drop rfl | exact relH_nil | exact r1_flat rfl | exact r0_flat rfl | exact rl_nil | exact wo_nil | exact bk_old rfl | exact bk_new rfl | exact bk_nil rfl | apply rl_cons | (first | exact relL_flat (flat_bind (f := frv) (fun _ => rfl) _) | exact relL_flat (flat_bind (f := ftv) (fun _ => rfl) _) | exact relL_flat (flat_map (fun _ => rfl) _) | first | exact relL_still hvs | exact relL_still (still_map (fun _ => rfl) _) | exact relL_still (still_map ro_still _) | exact relL_flat (flat_map (fun _ => rfl) _) | apply relL_set) | exact relL_flat (flat_map (fun _ => rfl) _) | exact relL_flat flat_nil | apply relL_to | apply rn_lst | apply rn_own | apply rn_mp | apply rn_row | apply relH_view rfl | apply relH_lview rfl | apply relH_fact rfl | exact r1_rig | exact r0_rig | exact r1_rigs | exact r0_rigs | apply wo_keep rfl | apply wo_drop rfl | apply r1_agg | apply rn_ptr | apply rn_slice | apply rn_slice0 | apply rn_iface | apply rn_map | apply rn_ifacem | apply r0_map | apply r0_ifacem | apply r0_ptr | apply r0_slice | apply r0_slice0 | apply r0_iface)); (first | done | fail)) : p := h
set_option maxRecDepth 100000 in
theorem lpage_c (b : Int) (hb8 : 0 ≤ b ∧ b ≤ 255) :
 CallOb Tryz.prog 29 [.int .u8 b] [] 0 (fun v hh m => ∃ z : ByteArray, z = pgS 232 b ∧ v = .string z ∧ hh = [] ∧ m = 0) := by
 refine call_spec tabOk mixed Tryz.call29 Tryz.func29 rfl [] (fun z : ByteArray => z = pgS 232 b) (fun z => .string z) (fun _ => []) (fun _ => 0) ?_ ?_
 · exact (Nat.le_of_ble_eq_true rfl)
 (repeat' ((try (conv => whnf)); first | (guard_target =~ ∃ (_ : Value), ∃ (_ : HP), ∃ (_ : HP), _; refine ⟨_, _, _, rnLogAwake2, ?_⟩; (try (dsimp only [Nat.reduceAdd, bC, bL]))) | (with_reducible refine ⟨232, 232, rfl, rfl, Nat.le_refl _, by omega, by omega, ?_⟩) | (guard_target =~ LoopOb _ _ _ _ _ _ _ _; refine loop_rule tabOk mixed [] 1 (fun k => [(0, .int .u8 b), (3, .slice (some ⟨0, 0, none⟩) 232 232), (4, iv (WL.i k : Nat))]) (fun k => [(0, .row 5 1 232 ((WL.L k).map byteV'))]) (fun k => 232 - WL.i k) (fun k => WL.i k ≤ 232 ∧ Pge 232 (UInt8.ofNat b.toNat) (WL.L k) (WL.i k)) (⟨0, List.replicate 232 0⟩) (⟨Nat.zero_le _, ⟨List.length_replicate, fun j hj => absurd hj (Nat.not_lt_zero _)⟩⟩) ⟨[(0, some 0)], Sub.q cvLogAwake1 (by rfl) (by rfl)⟩ (fun k hk => ?_)) | (rcases k with ⟨i, L⟩; dsimp only at hk ⊢) | (refine ⟨row_take hk.2.len, hk.2.len, ?_⟩) | (refine cell_in1 omT (fun y hy => ?_)) | (with_reducible first | refine chk_in (Nat.ble_eq_true_of_le omT) ?_ | (refine ifB_in ?_ ?_ <;> intro hb <;> (try simp only [bN1, bN2, bN3, bN4, bN5, bN6, bN7, bN8, bN9, bN0] at hb) <;> (try (exfalso; omega))) | refine ⟨_, w64b _, ?_⟩ | refine ⟨_, w64 omT omT, ?_⟩ | refine ⟨_, wu64 omT omT, ?_⟩ | refine ⟨_, wu8 omT omT, ?_⟩ | refine ⟨_, w64 szT szT, ?_⟩ | refine ⟨_, rfl, ?_⟩ | refine ⟨rfl, ?_⟩) | intro cap | (with_reducible refine ⟨trivial, ?_⟩) | (guard_target =~ (planChk _ _ = true) ∧ _; refine ⟨by kernel_rfl, ?_⟩) | (guard_target =~ (_ ∧ _) ∧ _; refine ⟨by ((repeat (first | exact trivial | refine ⟨rfl, ?_⟩)); (first | done | fail)), ?_⟩) | refine ⟨by omega, ?_⟩ | refine ⟨szT, ?_⟩ | refine ⟨0, rfl, ?_⟩ | refine ⟨1, rfl, ?_⟩ | refine ⟨2, rfl, ?_⟩ | refine ⟨3, rfl, ?_⟩ | refine ⟨4, rfl, ?_⟩ | refine ⟨5, rfl, ?_⟩ | (refine cell_at1 (by assumption) ?_) | (refine cell_in1 omT (fun x hx => ?_)) | fail)) <;> (try (conv => whnf))
 all_goals first
  | ((refine Again.go ((⟨i + 1, L.set i (UInt8.ofNat b.toNat)⟩ : WL)) ?_ (by (try dsimp only); omega) [(0, some 0)] (Sub.q cvLogAwake1 (by rfl) (by rfl))); exact ⟨by dsimp only; omega, hk.2.set (by omega)⟩)
  | ((refine Ends.go (strOf L) ?_ [] (Fit.q cvLogAwake1 (by rfl) (by rfl))); unfold pgS; rw [hk.2.done (by omega)])
  | (exfalso; exact absurd ((blt_len (L := L) (f := byteV') (i := i) (by rw [hk.2.len]; omega)).symm.trans hb) (by decide))
structure HK where
 n : Nat
 D : DM
 S : Nat → Prop
end Go.Proofs.YtcojbjakopkfbaaGreat
namespace Go.Proofs.YtcojbjakopkfbaaGreat
open Go.RowKit Go.Maps Go.Sort Go.Shelf
set_option linter.unusedSimpArgs false
set_option linter.unusedVariables false
def anyK : Value → Option (DataW Unit × List MemPlace) := fun _ => some (.nil, [])
def keyI (x : MapEntry) : Int := match x.key with | .int _ a => a | _ => 0
theorem keyI_rd {x : MapEntry} (hx : ∃ a : Int, x.key = .int .i64 a ∧ (Lit.int .i64 a).wf = true) : WideElems.rd Tryz.prog 3 anyK x = some (.int .i64 (keyI x), .nil) := by
 obtain ⟨a, hk, ha⟩ := hx
 have h : keyOf Tryz.prog 3 (.int .i64 a) = some (.int .i64 a) := Go.Maps.keyOf_int_mk Tryz.underlying3 ha
 unfold WideElems.rd keyI
 rw [hk, h]
 rfl
set_option maxRecDepth 100000 in
theorem keysI_own {w : World} {bm clock : Nat} {es : Array MapEntry} (hb : w.heap[bm]? = some (.map es clock)) (hst : MapKept.Stamped es clock) (hk : ∀ x ∈ es.toList, ∃ a : Int, x.key = .int .i64 a ∧ (Lit.int .i64 a).wf = true) (hn : es.size ≤ maxLen) :
 w.ownsMap Tryz.prog 3 anyK bm es.size (.map ((es.toList.map (WideElems.rg Tryz.prog 3 anyK)).foldr DataW.insert [])) ∧
  (intKeys (.map ((es.toList.map (WideElems.rg Tryz.prog 3 anyK)).foldr DataW.insert []))).Perm (es.toList.map keyI) ∧ Maps.size (.map ((es.toList.map (WideElems.rg Tryz.prog 3 anyK)).foldr DataW.insert [])) = es.size := by
 refine ⟨⟨es, clock, hb, ⟨hn, hst, fun x hx => ⟨_, keyI_rd (hk x hx)⟩⟩, Nat.le_refl _, rfl⟩, ?_, ?_⟩
 · refine ((WideShapes.sorted_perm _).map _).trans ?_
   rw [List.map_map]
   refine List.Perm.of_eq (List.map_congr_left fun x hx => ?_)
   show Go.intOf (WideElems.rg _ _ _ x).1 = keyI x
   unfold WideElems.rg
   rw [keyI_rd (hk x hx)]
   rfl
 · show List.length (List.foldr DataW.insert [] _) = _
   rw [(WideShapes.sorted_perm _).length_eq, List.length_map, Array.length_toList]
theorem sortsI_in (m : Nat) : AnyZI.SortsIn Tryz.prog Tryz.iterS68_ren Fence.wide m :=
 ⟨fun blk off cap ss W hH hblk hsz => callsIn_wide.2 (AnyM.slices_Sort_int Tryz.iterO96 blk off cap ss W hH hblk hsz),
  fun p cap W => callsIn_wide.2 (AnyM.slices_Sort_int_none Tryz.iterO96 p cap W)⟩
set_option maxHeartbeats 1000000 in
set_option maxRecDepth 100000 in
theorem sortk_w (w : World) (Bm bm : Nat) (es : Array MapEntry) (clock : Nat) (hBm : Bm < w.heap.size) (hc : w.cell? ⟨Bm, 0, none⟩ = some (.map (some bm))) (hb : w.heap[bm]? = some (.map es clock)) (hst : MapKept.Stamped es clock)
 (hk : ∀ x ∈ es.toList, ∃ a : Int, x.key = .int .i64 a ∧ (Lit.int .i64 a).wf = true) (hn : es.size ≤ 1000000) :
 Calls Tryz.prog 68 #[.func (.func 97) #[] #[.pointer (some ⟨Bm, 0, none⟩)]] w fun e w' => ∃ (v : Value) (ss : List Int), e = .returned v ∧ ss.Perm (es.toList.map keyI) ∧
  w'.ownsRow w.heap.size 3 1 v ss.length ((ss.mergeSort leI).map encZ) ∧ Below w.heap.size w w' := by
 obtain ⟨hown, hperm, hsize⟩ := keysI_own hb hst hk (Nat.le_trans hn (by unfold maxLen; decide))
 generalize (.map ((es.toList.map (WideElems.rg Tryz.prog 3 anyK)).foldr DataW.insert []) : DataW Unit) = D0 at hown hperm hsize
 have hseq : SeqGives Fence.wide 2 Tryz.prog 97 #[.pointer (some ⟨Bm, 0, none⟩)] encZ (fun ss => ss.Perm (intKeys D0)) (Maps.size D0) w :=
  AnyZI.keys_gives (ρ := Tryz.iterK69_ren) { Tryz.iterK69 with } Fence.wide _ trivial rfl (by omega) Bm bm es.size D0 _ hBm hc hown
 have cS := AnyZI.sorted_in Tryz.iterS68 Fence.wide 5 trivial trivial trivial trivial rfl (by omega) (sortsI_in _) (enters_of Tryz.func96 (by kernel_rfl) rfl) 97 #[.pointer (some ⟨Bm, 0, none⟩)] trivial (enters_of Tryz.func97 (by kernel_rfl) rfl) _ _ (by rw [hsize]; unfold maxLen; omega) (by rw [hsize]; omega) _ hseq
 change CallsIn _ _ Tryz.prog 68 _ _ _ at cS
 refine (callsIn_wide (n := 5)).1 (cS.mono ?_)
 rintro e w' ⟨v, ss, rfl, hS, hrow, hnil, hb⟩
 exact ⟨v, ss, rfl, hS.trans hperm, hrow, hb⟩
abbrev PgK := Int × Int
abbrev keyP (q : PgK) : Value := iv q.1
abbrev valP (q : PgK) : Value := iv q.2
def sortK (M : List PgK) : List Int := (M.map fun q => q.1).mergeSort leI
theorem sortK_length (M : List PgK) : (sortK M).length = M.length := by unfold sortK; rw [List.length_mergeSort, List.length_map]
theorem sortK_mem {M : List PgK} {a : Int} : a ∈ sortK M ↔ a ∈ M.map fun q => q.1 := List.mem_mergeSort
theorem sortK_le (M : List PgK) : (sortK M).Pairwise (· ≤ ·) := by
 have tr : ∀ a b c : Int, leI a b = true → leI b c = true → leI a c = true := fun a b c h1 h2 => by simp only [leI, decide_eq_true_eq] at *; exact Int.le_trans h1 h2
 have tt : ∀ a b : Int, (leI a b || leI b a) = true := fun a b => by simp only [leI, Bool.or_eq_true, decide_eq_true_eq]; exact Int.le_total a b
 exact (List.pairwise_mergeSort tr tt _).imp fun h => by simpa [leI] using h
theorem flat_ks (l : List Int) : ∀ u ∈ l.map iv, flat1 u = true := fun u hu => by obtain ⟨x, _, rfl⟩ := List.mem_map.1 hu; rfl
theorem vr_funcK {m : BM} {f i : Nat} {c : Value} (h : VR m (.func (.func f) #[] #[ptr i]) c) : ∃ g s, m i g s ∧ s ≠ nilS ∧ c = .func (.func f) #[] #[.pointer (some ⟨g, 0 + sh s, none⟩)] := by
 obtain ⟨l, hl, rfl⟩ : ∃ l', LR (V0 m) [ptr i] l' ∧ c = .func (.func f) #[] l'.toArray := (VR.of1 rfl).1 h
 match l, hl with
 | [u], ⟨hu, _⟩ =>
  obtain ⟨b, hb, e⟩ := hu
  obtain ⟨g, s, hm, hs, rfl⟩ := hb.old
  subst e
  exact ⟨g, s, hm, hs, rfl⟩
set_option maxRecDepth 100000 in
theorem sortk_c (M : List PgK) (hM : ∀ q ∈ M, 0 ≤ q.1 ∧ q.1 < 4294967296) (hlen : M.length ≤ 1000000) :
 CallOb Tryz.prog 68 [.func (.func 97) #[] #[ptr 0]] [(0, .own 97 [.map (some 1)]), (1, .mp (M.map keyP) (M.map valP))] 2
 (fun v h n => ∃ c : Nat, M.length ≤ c ∧ v = mslice 2 M.length c ∧ h = [(2, .lst 3 1 c ((sortK M).map iv)), (0, .own 97 [.map (some 1)]), (1, .mp (M.map keyP) (M.map valP))] ∧ n = 3) := by
 refine ⟨Tryz.call68, fun F B w0 m w cs H ha => ?_⟩
 match cs, ha with
 | [c], ⟨hc, _⟩ =>
  obtain ⟨g, s, hg, hs0, rfl⟩ := vr_funcK hc
  obtain ⟨rfl, _, l, hl, hblk⟩ := H.at (i := 0) rfl hg
  obtain ⟨gj, sj, hgj, rfl, _, A, clk, h1, h2, h3⟩ := H.dom 1 _ rfl
  have hcell : w.cell? ⟨g, 0, none⟩ = some (.map (some gj)) := by
   match l, hl with
   | [u], ⟨hu, _⟩ =>
    obtain ⟨b, hb, rfl⟩ : ∃ b, A0 m ⟨1, 0, none⟩ b ∧ u = .map (some b.block) := (V1.of0 rfl).1 hu
    obtain ⟨g', s', hm, _, rfl⟩ := hb.old
    obtain ⟨rfl, rfl⟩ := H.fn _ _ _ _ _ hm hgj
    rw [hblk.cell]; rfl
  have hsz : A.size = M.length := by
   have := congrArg List.length h2
   rwa [List.length_map, List.length_map, Array.length_toList] at this
  have hkeys : A.toList.map keyI = M.map fun q => q.1 := by
   have := congrArg (List.map fun v : Value => match v with | .int _ a => a | _ => 0) h2
   rw [List.map_map, List.map_map] at this
   exact this
  have hk : ∀ x ∈ A.toList, ∃ a : Int, x.key = .int .i64 a ∧ (Lit.int .i64 a).wf = true := fun x hx => by
   have hx' : x.key ∈ M.map keyP := h2 ▸ List.mem_map_of_mem (f := fun e => e.key) hx
   obtain ⟨q, hq, hxe⟩ := List.mem_map.1 hx'
   have := hM q hq
   refine ⟨q.1, hxe.symm, ?_⟩
   show (decide ((-9223372036854775808 : Int) ≤ q.1) && decide (q.1 ≤ 9223372036854775807)) = true
   rw [Bool.and_eq_true, decide_eq_true_eq, decide_eq_true_eq]
   omega
  rw [show (⟨g, 0 + sh 0, none⟩ : Addr) = ⟨g, 0, none⟩ by rw [sh_zero]]
  refine (sortk_w w g gj A clk hblk.lt hcell h1.1 h1.2 hk (by omega)).mono ?_
  rintro e w' ⟨v, ss, rfl, hperm, hrow, hbel⟩
  rw [hkeys] at hperm
  have hss : ss.mergeSort leI = sortK M := mergeSort_of_perm_i hperm
  have hlen2 : ss.length = M.length := by rw [hperm.length_eq, List.length_map]
  rw [hss, hlen2] at hrow
  rcases hrow.2 with ⟨rfl, h0⟩ | ⟨gb, c, cur, rfl, hge, hcur, r1, r2, r3, r4⟩
  · have hM0 : M = [] := List.eq_nil_of_length_eq_zero h0
    subst hM0
    have H2 := (H.later hbel).pushNilA 3 1 (wcode none)
    exact ⟨_, _, _, _, _, rfl, BM.le_put _ _ _ _, VR.nilA m 2 none, H2, 0, Nat.le_refl _, rfl, by rw [show sortK [] = [] by simp [sortK]]; rfl, rfl⟩
  · have H2 := H.push hbel (it := .lst 3 1 c ((sortK M).map iv)) hge (.inr ⟨rfl, .inl (Nat.le_trans H.base' hge), r2, (sortK M).map iv, cur, LR.refl_of (fun u hu => (V1.flat (flat_ks _ u hu)).2 rfl), hcur, r3, by rw [List.length_map, sortK_length]; simpa using r4, by rw [List.length_map, sortK_length, r3]; omega⟩) rfl
    exact ⟨_, _, _, _, _, rfl, BM.le_add _ _ _, VR.newM _ _ _ _ _, H2, c, r1, rfl, rfl, rfl⟩
end Go.Proofs.YtcojbjakopkfbaaGreat
namespace Go.Proofs.YtcojbjakopkfbaaGreat
open Go.RowKit
set_option linter.unusedSimpArgs false
set_option linter.unusedVariables false
attribute [local irreducible] numOf fixedL bytesOf strOf lastM sortK
theorem cvLogAwake3 {p : Prop} (h : p := by have nw := True.intro; (repeat' (first | exact True.intro | (with_reducible exact rfl) | (with_reducible exact AbsLe.refl) | (guard_target =~ @Eq Nat _ _; first | exact rfl | omega) | (guard_target =~ List.map _ _ = []; exact rfl) | (first | (guard_target =~ @Eq (List Value) _ _; exact rfl) | exact covL_of rfl (flat_bind (f := frv) (fun _ => rfl) _) | exact covL_of rfl (flat_map (fun _ => rfl) _) | first | exact covL_still rfl hvs | exact covL_still rfl (still_map (fun _ => rfl) _) | exact covL_still rfl (still_map ro_still _) | (apply covL_set <;> (try clear nw) <;> have nw := True.intro) | exact congrArg (Value.int _) (by (try dsimp only); omega)) | (exact congrArg (Value.int _) (by omega)) | (exact covL_flat (flat_map (fun _ => rfl) _)) | (exact covL_flat flat_nil) | (refine covP_all ?_; (try clear nw); have nw := True.intro) | (refine covL_each ?_; (try clear nw); have nw := True.intro) | (refine ⟨?_, ?_⟩ <;> (try clear nw) <;> have nw := True.intro) | (guard_hyp nw : True; ((conv => whnf) <;> clear nw)))); (first | done | fail)) : p := h
theorem rnLogAwake4 {p : Prop} (h : p := by refine ⟨?_, ?_, ?_⟩; (first | apply rR_tuple | apply rR_one rfl | exact rfl); all_goals (repeat' (first | (with_reducible (first | exact relH_nil | apply rn_lst | apply rn_own | apply rn_mp | apply rn_row | apply rn_abs | exact wo_nil)) | apply wo_keep rfl | apply wo_drop rfl | exact relH_nil | exact r1_flat rfl | exact r0_flat rfl | exact rl_nil | exact wo_nil | exact bk_old rfl | exact bk_new rfl | exact bk_nil rfl | apply rl_cons | (first | exact relL_flat (flat_bind (f := frv) (fun _ => rfl) _) | exact relL_flat (flat_map (fun _ => rfl) _) | first | exact relL_still hvs | exact relL_still (still_map (fun _ => rfl) _) | exact relL_still (still_map ro_still _) | exact relL_flat (flat_map (fun _ => rfl) _) | apply relL_set) | exact relL_flat (flat_map (fun _ => rfl) _) | exact relL_flat flat_nil | apply relL_to | apply rn_lst | apply rn_own | apply rn_mp | apply rn_row | apply relH_view rfl | apply relH_lview rfl | apply relH_fact rfl | exact r1_rig | exact r0_rig | exact r1_rigs | exact r0_rigs | apply wo_keep rfl | apply wo_drop rfl | apply r1_agg | apply rn_ptr | apply rn_slice | apply rn_slice0 | apply rn_iface | apply rn_map | apply rn_ifacem | apply r0_map | apply r0_ifacem | apply r0_ptr | apply r0_slice | apply r0_slice0 | apply r0_iface)); (first | done | fail)) : p := h
set_option maxRecDepth 100000 in
theorem lpages_c (fs : List Fr) (cap : Nat) (S : Nat → Prop) (D : DM) (hM : ∀ q ∈ lastM fs, 0 ≤ q.1 ∧ q.1 < 4294967296) (hL : (lastM fs).length ≤ 1000000) :
 CallOb Tryz.prog 22 [ptr 0] (lgH fs cap S D) 4 (fun v h m => ∃ c : Nat, (lastM fs).length ≤ c ∧ v = mslice 50 (lastM fs).length c ∧ h = (50, .lst 3 1 c ((sortK (lastM fs)).map iv)) :: lgH fs cap S D ∧ m = 100) := by
 refine call_spec tabOk mixed Tryz.call22 Tryz.func22 rfl [] (fun c : Nat => (lastM fs).length ≤ c) (fun c => mslice 50 (lastM fs).length c) (fun c => (50, .lst 3 1 c ((sortK (lastM fs)).map iv)) :: lgH fs cap S D) (fun _ => 100) ?_ ?_
 · exact (Nat.le_of_ble_eq_true rfl)
 (repeat' ((try (conv => whnf)); first | (guard_target =~ ∃ (_ : Value), ∃ (_ : HP), ∃ (_ : HP), _; refine ⟨_, _, _, rnLogAwake4, ?_⟩; (try (dsimp only [Nat.reduceAdd, bC, bL]))) | (guard_target =~ CallOb _ 69 _ _ _ _; (with_reducible refine call_inline tabOk mixed Tryz.call69 Tryz.func69 ?_ [] ?_ ?_); exact rfl; exact Nat.le_of_ble_eq_true rfl) | (guard_target =~ CallOb _ 68 _ _ _ _; refine call_q (sortk_c (lastM fs) hM hL) [(0, some 4), (1, some 3)] cvLogAwake3 rfT rfT rfT (fun v h1 n1 hp => ?_); obtain ⟨cs, hcs, rfl, rfl, rfl⟩ := hp; (try (dsimp only [Nat.reduceAdd, bC, bL]))) | (with_reducible first | refine chk_in (Nat.ble_eq_true_of_le omT) ?_ | (refine ifB_in ?_ ?_ <;> intro hb <;> (try simp only [bN1, bN2, bN3, bN4, bN5, bN6, bN7, bN8, bN9, bN0] at hb) <;> (try (exfalso; omega))) | refine ⟨_, w64b _, ?_⟩ | refine ⟨_, w64 omT omT, ?_⟩ | refine ⟨_, wu64 omT omT, ?_⟩ | refine ⟨_, wu8 omT omT, ?_⟩ | refine ⟨_, w64 szT szT, ?_⟩ | refine ⟨_, rfl, ?_⟩ | refine ⟨rfl, ?_⟩) | intro cap | (with_reducible refine ⟨trivial, ?_⟩) | (guard_target =~ (planChk _ _ = true) ∧ _; refine ⟨by kernel_rfl, ?_⟩) | (guard_target =~ (_ ∧ _) ∧ _; refine ⟨by ((repeat (first | exact trivial | refine ⟨rfl, ?_⟩)); (first | done | fail)), ?_⟩) | refine ⟨by omega, ?_⟩ | refine ⟨szT, ?_⟩ | refine ⟨0, rfl, ?_⟩ | refine ⟨1, rfl, ?_⟩ | refine ⟨2, rfl, ?_⟩ | refine ⟨3, rfl, ?_⟩ | refine ⟨4, rfl, ?_⟩ | refine ⟨5, rfl, ?_⟩ | (refine cell_at1 (by assumption) ?_) | (refine cell_in1 omT (fun x hx => ?_)) | fail)) <;> (try (conv => whnf))
 all_goals first
  | ((refine Ends.go (cs) ?_ [(0, some 0), (1, some 1), (2, some 2), (3, some 3), (50, some 7)] (Fit.q cvLogAwake3 (by rfl) (by rfl))); exact hcs)
  | trace_state
end Go.Proofs.YtcojbjakopkfbaaGreat
namespace Go.Proofs.YtcojbjakopkfbaaGreat
open Go.RowKit
set_option linter.unusedSimpArgs false
set_option linter.unusedVariables false
theorem up_again {X : List XL} {fs : List Fr} {D : DM} (h : UpR X fs D) : ∃ fs' D', openL D = ((0, fs'), D') ∧ UpR (X.take (supC X X.length)) fs' D' := by
 obtain ⟨⟨k, o, s, rfl, hu, hk, hL⟩, rfl⟩ := h
 obtain ⟨fs', k', o', e, h1, h2, h3, h4⟩ := openP hk hu o
 have hn := supC_le X X.length
 cases o with
 | none =>
  obtain ⟨rfl, rfl⟩ := h4 (fun hh => by cases hh)
  obtain rfl := hL.no rfl
  exact ⟨[], _, e, ⟨k', none, 0, rfl, h2, h1, LogS.nil⟩, rfl⟩
 | some y =>
  have hnow := hL.yes y rfl
  have hnn : nowO (some y) = some topS :: (layS c0 X).map some := hnow
  obtain ⟨rfl, y', hy', hy⟩ := h3 (by unfold topped; rw [hnn]; rfl)
  obtain rfl := Option.some.inj hy'
  rw [hnn] at hy e
  have hdr : (some topS :: (layS c0 X).map some).drop 1 = (layS c0 X).map some := rfl
  rw [hdr] at hy e
  obtain ⟨a, a1, a2, a3, a4⟩ := rd_fz c0 (fz_self ((layS c0 X).map some))
  rw [List.length_map, layS_len] at a2 a1
  obtain rfl : a = X.length := by omega
  rw [rd_take c0_u hL.ok] at a3
  rw [a3, trim_lay c0 X a2] at hy e
  have hnl : (layF c0 (X.take (supC X X.length))).length = supC X X.length := by rw [layF_len, List.length_take]; omega
  rw [hnl] at hy
  have hyl : y.now.length = X.length + 1 := by rw [hnow, List.length_cons, List.length_map, layS_len]
  rcases hy with ⟨rfl, hy2⟩ | ⟨rfl, hy2⟩
  · have hx : X.take (supC X X.length) = X := List.take_of_length_le (by omega)
    rw [hx] at e ⊢
    exact ⟨_, _, e, ⟨k', _, s, rfl, h2, h1, hL⟩, rfl⟩
  · refine ⟨_, _, e, ⟨k', _, min s (1 + supC X X.length), rfl, h2, h1, fun hh => (by cases hh), fun z hz => ?_, fun z hz => ?_, ?_, fun x hx => hL.ok x (List.mem_of_mem_take hx)⟩, rfl⟩
    · cases hz
      show y.now.take (1 + supC X X.length) = _
      rw [hnow, Nat.add_comm, List.take_succ_cons, ← List.map_take, layS_take]
    · cases hz
      exact (hL.yf y rfl).cut hL.sl _
    · show min s (1 + supC X X.length) ≤ (y.now.take (1 + supC X X.length)).length
      rw [List.length_take]
      have : s ≤ y.now.length := hL.sl
      omega
theorem lay_u : ∀ (c : Int) (X : List XL), ∀ f ∈ layF c X, U64 f.2.1
 | _, [], f, h => by cases h
 | c, x :: r, f, h => by
  rcases List.mem_cons.1 h with rfl | h
  · exact sumS_u _
  · exact lay_u _ r f h
theorem up_u {X : List XL} {fs : List Fr} {D : DM} (h : UpR X fs D) : ∀ f ∈ fs, U64 f.2.1 := by rw [h.fs]; exact lay_u _ _
theorem up_size {X : List XL} {fs : List Fr} {D : DM} (h : UpR X fs D) : (sizeD D logN).toNat ≤ X.length + 1 := by
 obtain ⟨⟨k, o, s, rfl, hu, hk, hL⟩, rfl⟩ := h
 have := hL.len.1
 cases o with
 | none => rw [size1_no]; omega
 | some y => rw [size1_yes]; have e : lenO (some y) = y.now.length := rfl; omega
structure LgR (X : List XL) (fs : List Fr) (cap : Nat) (D : DM) (N : Int) : Prop where
 up : UpR X fs D
 ok : D.OkN N
 cap : fs.length ≤ cap
theorem LgR.len {X : List XL} {fs : List Fr} {cap : Nat} {D : DM} {N : Int} (h : LgR X fs cap D N) : fs.length = X.length := up_len h.up
theorem LgR.start {D0 D : DM} {fs : List Fr} {cap : Nat} {r : Int} (h : D0 = newD r) (hr : 100 ≤ r) (ho : ((0, fs), D) = openL D0) (hc : fs.length ≤ cap) : LgR [] fs cap D 1 := by
 obtain ⟨e, hu⟩ := up_start h hr
 rw [e] at ho
 simp only [Prod.mk.injEq] at ho
 obtain ⟨⟨_, rfl⟩, rfl⟩ := ho
 exact ⟨hu, by rw [h]; exact (new_okN r).mono (by decide), hc⟩
theorem LgR.add {X : List XL} {fs fs' : List Fr} {cap cap' : Nat} {D D' : DM} {N : Int} (h : LgR X fs cap D N) {n : Int} {d : ByteArray} {c : Bool} (hn : 0 ≤ n ∧ n < 4096) (hd : d.size = 232) (hl : X.length < 98) {e : Int} (ha : (e, fs', D') = addL fs D n d c) (hc : fs'.length ≤ cap') : e = 0 ∧ LgR (X ++ [(n, d, c)]) fs' cap' D' (N + 2) := by
 obtain ⟨h0, h1⟩ := up_add h.up (x := (n, d, c)) ⟨hn, hd⟩ hl ha
 have := addL_okN h.ok fs n d c
 rw [← ha] at this
 exact ⟨h0, h1, this, hc⟩
theorem LgR.sync {X : List XL} {fs : List Fr} {cap : Nat} {D D' : DM} {N : Int} (h : LgR X fs cap D N) {e : Int} (ha : (e, D') = lsyncL D) : e = 0 ∧ LgR X fs cap D' (N + 1) ∧ SafeL X D' := by
 obtain ⟨h0, h1, h2⟩ := up_sync h.up ha
 have := lsyncL_okN h.ok
 rw [← ha] at this
 exact ⟨h0, ⟨h1, this, h.cap⟩, h2⟩
theorem LgR.get {X : List XL} {fs : List Fr} {cap : Nat} {D D' : DM} {N : Int} (h : LgR X fs cap D N) {n : Int} {z : ByteArray} {is : Bool} {e : Int} (hg : ((z, is, e), D') = getL fs D n) : z = wantS X n ∧ (is = true ↔ wantS X n ≠ ⟨#[]⟩) ∧ e = 0 ∧ LgR X fs cap D' (N + 1) := by
 obtain ⟨h0, h1, h2, h3⟩ := up_get h.up n hg
 have := getL_okN h.ok fs n
 rw [← hg] at this
 exact ⟨h0, h1, h2, h3, this, h.cap⟩
theorem LgR.again0 {X : List XL} {fs : List Fr} {cap : Nat} {D : DM} {N : Int} (h : LgR X fs cap D N) : (openL D).1.1 = 0 := by
 obtain ⟨f, d, e, _⟩ := up_again h.up
 rw [e]
theorem LgR.again {X : List XL} {fs fs' : List Fr} {cap cap' : Nat} {D D' : DM} {N : Int} (h : LgR X fs cap D N) (ho : ((0, fs'), D') = openL D) (hc : fs'.length ≤ cap') : LgR (X.take (supC X X.length)) fs' cap' D' (N + X.length + 2) := by
 obtain ⟨f, d, e, hu⟩ := up_again h.up
 have := openL_okN h.ok (up_size h.up)
 rw [← ho] at this
 rw [e] at ho
 simp only [Prod.mk.injEq] at ho
 obtain ⟨⟨_, rfl⟩, rfl⟩ := ho
 exact ⟨hu, this.mono (by omega), hc⟩
theorem up_size_is {X : List XL} {fs : List Fr} {D : DM} (h : UpR X fs D) (hX : X ≠ []) : sizeD D logN = (X.length : Int) + 1 := by
 obtain ⟨⟨k, o, s, rfl, hu, hk, hL⟩, rfl⟩ := h
 have := hL.len.2 hX
 cases o with
 | none => exact absurd (hL.no rfl) hX
 | some y => rw [size1_yes]; have e : lenO (some y) = y.now.length := rfl; omega
end Go.Proofs.YtcojbjakopkfbaaGreat
namespace Go.Proofs.YtcojbjakopkfbaaGreat
open Go.RowKit
set_option linter.unusedSimpArgs false
set_option linter.unusedVariables false
abbrev x1 : XL := (3, pgS 232 1, false)
abbrev x2 : XL := (4, pgS 232 2, true)
abbrev x3 : XL := (3, pgS 232 3, false)
theorem aw_get1 : wantS [x1, x2, x3] 3 = pgS 232 3 := rfl
theorem aw_get2 : wantS [x1, x2] 3 = pgS 232 1 := rfl
theorem pgS_ne (b : Int) : pgS 232 b ≠ ⟨#[]⟩ := fun h => by
 have := congrArg ByteArray.size h
 rw [pgS_size] at this
 exact absurd this (by decide)
theorem aw_last {fs : List Fr} {D : DM} (h : UpR [x1, x2] fs D) : lastM fs = [(3, 0), (4, 1)] := by
 rw [h.fs]
 show lastM [frX _ x1, frX _ x2] = _
 rfl
theorem aw_sort : sortK [((3 : Int), (0 : Int)), (4, 1)] = [3, 4] := by
 unfold sortK
 show List.mergeSort [(3 : Int), 4] leI = [3, 4]
 simp [List.mergeSort, leI]
 try rfl
attribute [local irreducible] numOf fixedL bytesOf strOf strEq strLt sfrom closeS closeE writeD sizeD syncD cutD dropD readD topS sumS sumL rightR lastM readL openL trimR addL kindL lsyncL getL lbackL lendL pgS wantS sortK
set_option maxRecDepth 100000 in
set_option maxHeartbeats 4000000 in
theorem awakeL_c : CallOb Tryz.prog 7 [] [] 0 (fun v hh m => ∃ z : Bool, z = true ∧ v = .bool z ∧ hh = [] ∧ m = 0) := by
 refine call_spec tabOk mixed Tryz.call7 Tryz.func7 rfl [] (fun z : Bool => z = true) (fun z => .bool z) (fun _ => []) (fun _ => 0) ?_ ?_
 · exact (Nat.le_of_ble_eq_true rfl)
 (repeat' ((try (conv => whnf)); first | (guard_target =~ ∃ (_ : Value), ∃ (_ : HP), ∃ (_ : HP), _; refine ⟨_, _, _, rnLogAwake4, ?_⟩; (try (dsimp only [Nat.reduceAdd, bC, bL]))) | (guard_target =~ CallOb _ 11 _ _ _ _; refine call_q (new_c 100 (by decide)) [] cvLogAwake3 rfT rfT rfT (fun v h1 n1 hp => ?_); obtain ⟨D0, S0, hD0, rfl, rfl, rfl⟩ := hp; have k0 : D0.OkN 0 := hD0 ▸ new_okN 100; have h00 : (openL D0).1.1 = 0 := (by rw [(up_start hD0 (by decide)).1]); (try (dsimp only [Nat.reduceAdd, bC, bL]))) | (guard_target =~ CallOb _ 15 _ _ _ _; guard_hyp R6 : LgR _ _ _ _ _; refine call_q (lopen_c T6 D6 R6.ok (by decide) R6.again0) [(0, some 0)] cvLogAwake3 rfT rfT rfT (fun v h1 n1 hp => ?_); obtain ⟨⟨⟨m7, f7, c7, T7, D7⟩, e7⟩, hx7, rfl, rfl, rfl⟩ := hp; dsimp only at hx7; obtain ⟨ho7, hc7, rfl, he7⟩ := hx7; have R7 := R6.again ho7 hc7; rw [show [x1, x2, x3].take (supC [x1, x2, x3] [x1, x2, x3].length) = [x1, x2] by rfl] at R7; have hl6 := R6.len; clear R6; (try (dsimp only [Nat.reduceAdd, bC, bL]))) | (guard_target =~ CallOb _ 15 _ _ _ _; refine call_q (lopen_c S0 D0 k0 (by decide) h00) [(0, some 0)] cvLogAwake3 rfT rfT rfT (fun v h1 n1 hp => ?_); obtain ⟨⟨⟨m1, f1, c1, T1, D1⟩, e1⟩, hx1, rfl, rfl, rfl⟩ := hp; dsimp only at hx1; obtain ⟨ho1, hc1, rfl, he1⟩ := hx1; have R1 := LgR.start hD0 (by decide) ho1 hc1; (try (dsimp only [Nat.reduceAdd, bC, bL]))) | (guard_target =~ CallOb _ 29 _ _ _ _; (first | (refine call_q (lpage_c 1 (by decide)) [] cvLogAwake3 rfT rfT rfT (fun v h1 n1 hp => ?_)) | (refine call_q (lpage_c 2 (by decide)) [] cvLogAwake3 rfT rfT rfT (fun v h1 n1 hp => ?_)) | (refine call_q (lpage_c 3 (by decide)) [] cvLogAwake3 rfT rfT rfT (fun v h1 n1 hp => ?_))); (first | (guard_hyp g8 : 1 = 1; obtain ⟨p5, hp5, rfl, rfl, rfl⟩ := hp) | (guard_hyp R8 : LgR _ _ _ _ _; obtain ⟨p4, hp4, rfl, rfl, rfl⟩ := hp; have g8 : 1 = 1 := rfl) | (guard_hyp R4 : LgR _ _ _ _ _; obtain ⟨p3, hp3, rfl, rfl, rfl⟩ := hp) | (guard_hyp R2 : LgR _ _ _ _ _; obtain ⟨p2, hp2, rfl, rfl, rfl⟩ := hp) | (obtain ⟨p1, hp1, rfl, rfl, rfl⟩ := hp)); (try (dsimp only [Nat.reduceAdd, bC, bL]))) | (guard_target =~ CallOb _ 27 _ _ _ _; guard_hyp R4 : LgR _ _ _ _ _; refine call_q (ladd_c f3 c3 T4 D4 R4.ok (by decide) R4.cap (by rw [R4.len]; decide) (up_u R4.up) 3 _ false) [(0, some 30), (1, some 0), (2, some 1050), (3, some 1051)] cvLogAwake3 rfT rfT rfT (fun v h1 n1 hp => ?_); obtain ⟨⟨⟨m5, f5, c5, T5, D5⟩, a5⟩, hx5, rfl, rfl, rfl⟩ := hp; dsimp only at hx5; obtain ⟨ha5, hc5, rfl⟩ := hx5; subst hp3; obtain ⟨he5, R5⟩ := R4.add (by decide) (pgS_size _ _) (by decide) ha5 hc5; dsimp only [List.nil_append, List.cons_append] at R5; clear R4; have g4 : 1 = 1 := rfl; (try (dsimp only [Nat.reduceAdd, bC, bL]))) | (guard_target =~ CallOb _ 27 _ _ _ _; guard_hyp R2 : LgR _ _ _ _ _; refine call_q (ladd_c f2 c2 T2 D2 R2.ok (by decide) R2.cap (by rw [R2.len]; decide) (up_u R2.up) 4 _ true) [(0, some 30), (1, some 0), (2, some 850), (3, some 851)] cvLogAwake3 rfT rfT rfT (fun v h1 n1 hp => ?_); obtain ⟨⟨⟨m3, f3, c3, T3, D3⟩, a3⟩, hx3, rfl, rfl, rfl⟩ := hp; dsimp only at hx3; obtain ⟨ha3, hc3, rfl⟩ := hx3; subst hp2; obtain ⟨he3, R3⟩ := R2.add (by decide) (pgS_size _ _) (by decide) ha3 hc3; dsimp only [List.nil_append, List.cons_append] at R3; clear R2; have g3 : 1 = 1 := rfl; (try (dsimp only [Nat.reduceAdd, bC, bL]))) | (guard_target =~ CallOb _ 27 _ _ _ _; guard_hyp R1 : LgR _ _ _ _ _; refine call_q (ladd_c f1 c1 T1 D1 R1.ok (by decide) R1.cap (by rw [R1.len]; decide) (up_u R1.up) 3 _ false) [(0, some 30), (1, some 0), (2, some 31), (3, some 32)] cvLogAwake3 rfT rfT rfT (fun v h1 n1 hp => ?_); obtain ⟨⟨⟨m2, f2, c2, T2, D2⟩, a2⟩, hx2, rfl, rfl, rfl⟩ := hp; dsimp only at hx2; obtain ⟨ha2, hc2, rfl⟩ := hx2; subst hp1; obtain ⟨he2, R2⟩ := R1.add (by decide) (pgS_size _ _) (by decide) ha2 hc2; dsimp only [List.nil_append, List.cons_append] at R2; clear R1; have g2 : 1 = 1 := rfl; (try (dsimp only [Nat.reduceAdd, bC, bL]))) | (guard_target =~ CallOb _ 30 _ _ _ _; refine call_q (lsync_c (lastM f3) f3 c3 T3 D3 R3.ok (by decide)) [(0, some 30), (1, some 0), (2, some 1050), (3, some 1051)] cvLogAwake3 rfT rfT rfT (fun v h1 n1 hp => ?_); obtain ⟨⟨e4, D4, T4⟩, hy4, rfl, rfl, rfl⟩ := hp; dsimp only at hy4; obtain ⟨he4, R4, -⟩ := R3.sync hy4; clear R3; (try (dsimp only [Nat.reduceAdd, bC, bL]))) | (guard_target =~ CallOb _ 24 _ _ _ _; guard_hyp R7 : LgR _ _ _ _ _; refine call_q (lget_c f7 c7 T7 D7 R7.ok (by decide) (by rw [R7.len]; decide) 3) [(0, some 1530), (1, some 0), (2, some 1531), (3, some 1532)] cvLogAwake3 rfT rfT rfT (fun v h1 n1 hp => ?_); obtain ⟨⟨⟨z8, i8, e8⟩, D8, T8⟩, hg8, rfl, rfl, rfl⟩ := hp; dsimp only at hg8; obtain ⟨hz8, hi8, he8, R8⟩ := R7.get hg8; clear R7; rw [aw_get2] at hz8 hi8; have hi8 := hi8.2 (pgS_ne _); have hla := aw_last R8.up; (try (dsimp only [Nat.reduceAdd, bC, bL]))) | (guard_target =~ CallOb _ 24 _ _ _ _; guard_hyp R5 : LgR _ _ _ _ _; refine call_q (lget_c f5 c5 T5 D5 R5.ok (by decide) (by rw [R5.len]; decide) 3) [(0, some 30), (1, some 0), (2, some 1310), (3, some 1311)] cvLogAwake3 rfT rfT rfT (fun v h1 n1 hp => ?_); obtain ⟨⟨⟨z6, i6, e6⟩, D6, T6⟩, hg6, rfl, rfl, rfl⟩ := hp; dsimp only at hg6; obtain ⟨hz6, hi6, he6, R6⟩ := R5.get hg6; clear R5; rw [aw_get1] at hz6 hi6; have hi6 := hi6.2 (pgS_ne _); (try (dsimp only [Nat.reduceAdd, bC, bL]))) | (guard_target =~ CallOb _ 22 _ _ _ _; have hlp := lpages_c f7 c7 T8 D8 (by rw [hla]; decide) (by rw [hla]; decide); rw [hla, aw_sort] at hlp; refine call_q hlp [(0, some 1530), (1, some 0), (2, some 1531), (3, some 1532)] cvLogAwake3 rfT rfT rfT (fun v h1 n1 hp => ?_); obtain ⟨cp, hcp, rfl, rfl, rfl⟩ := hp; clear hlp; (try (dsimp only [Nat.reduceAdd, bC, bL]))) | (guard_target =~ CallOb _ 17 _ _ _ _; refine call_q (size_k T8 D8 (up_ok R8.ok (by decide)) logN) [(0, some 0)] cvLogAwake3 rfT rfT rfT (fun v h1 n1 hp => ?_); obtain ⟨sz, T9, hsz, rfl, rfl, rfl⟩ := hp; rw [up_size_is R8.up (by simp)] at hsz; (try (dsimp only [Nat.reduceAdd, bC, bL]))) | (guard_target =~ CallOb _ 19 _ _ _ _; (with_reducible refine call_inline tabOk mixed Tryz.call19 Tryz.func19 ?_ [] ?_ ?_); exact rfl; exact Nat.le_of_ble_eq_true rfl) | (with_reducible first | refine chk_in (Nat.ble_eq_true_of_le omT) ?_ | (refine ifB_in ?_ ?_ <;> intro hb <;> (try simp only [bN1, bN2, bN3, bN4, bN5, bN6, bN7, bN8, bN9, bN0] at hb) <;> (try (exfalso; omega))) | refine ⟨_, w64b _, ?_⟩ | refine ⟨_, w64 omT omT, ?_⟩ | refine ⟨_, wu64 omT omT, ?_⟩ | refine ⟨_, wu8 omT omT, ?_⟩ | refine ⟨_, w64 szT szT, ?_⟩ | refine ⟨_, rfl, ?_⟩ | refine ⟨rfl, ?_⟩) | intro cap | (with_reducible refine ⟨trivial, ?_⟩) | (guard_target =~ (planChk _ _ = true) ∧ _; refine ⟨by kernel_rfl, ?_⟩) | (guard_target =~ (_ ∧ _) ∧ _; refine ⟨by ((repeat (first | exact trivial | refine ⟨rfl, ?_⟩)); (first | done | fail)), ?_⟩) | refine ⟨by omega, ?_⟩ | refine ⟨szT, ?_⟩ | refine ⟨0, rfl, ?_⟩ | refine ⟨1, rfl, ?_⟩ | refine ⟨2, rfl, ?_⟩ | refine ⟨3, rfl, ?_⟩ | refine ⟨4, rfl, ?_⟩ | refine ⟨5, rfl, ?_⟩ | (refine cell_at1 (by assumption) ?_) | (refine cell_in1 omT (fun x hx => ?_)) | fail)) <;> (try (conv => whnf))
 all_goals first
  | (exfalso; omega)
  | (exfalso; rw [hz6, hp4, strEq_self] at hb; cases hb)
  | (exfalso; rw [hz8, hp5, strEq_self] at hb; cases hb)
  | (exfalso; rw [hi6] at hb; cases hb)
  | (exfalso; rw [hi8] at hb; cases hb)
  | (exfalso; have hl8 := R8.len; change f7.length = 2 at hl8; change f5.length = 3 at hl6; omega)
  | ((refine Ends.go (decide (sz = 3)) ?_ [] (Fit.q cvLogAwake3 (by rfl) (by rfl))); exact decide_eq_true hsz)
  | trace_state
end Go.Proofs.YtcojbjakopkfbaaGreat
