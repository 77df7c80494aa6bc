/- The document's log: its calls over the document's disk, to the same functions. The document's log: its other calls. The document's log: Sync, Get, Back, End, Len, Pages. The document's log: Pages; both tell the same pages. The log's laws: acts as they came in; what holds of a log between two calls. -/
import Derived.Test.YtcojbjakopkfbaaGreatLogMore
import Derived.Test.YtcojbjakopkfbaaGreatSealRef
import Derived.Test.YtcojbjakopkfbaaGreatRefLoad
import Derived.Test.YtcojbjakopkfbaaGreatRefPower
import Derived.Test.YtcojbjakopkfbaaGreatLogAwake
import Derived.OpenShut
namespace Go.Proofs.YtcojbjakopkfbaaGreat
open Go.RowKit
set_option linter.unusedSimpArgs false
set_option linter.unusedVariables false
section
variable (S : Nat → Prop) (D : DM) (hD : D.Ok)
include hD
theorem rsize_q (s : ByteArray) : CallOb Tryz.prog 18 [ptr 0, .string s] [(0, refI S D)] 1 (fun v h m => ∃ (a : Int) (S' : Nat → Prop), a = sizeD D s ∧ v = iv a ∧ h = [(0, refI S' D)] ∧ m = 200) :=
 (rsize_k S D hD s).mono fun v h m ⟨a, D', S', hr, h1, h2, h3⟩ => by
  obtain ⟨rfl, rfl⟩ := hr
  exact ⟨_, S', rfl, h1, h2, h3⟩
end
abbrev fNv (f : Fr) : Value := iv f.1
abbrev uV (x : Int) : Value := .int .u64 x
noncomputable def ssL (fs : List Fr) : List Int := sumS topS :: fs.map fun f => f.2.1
theorem ssL_len (fs : List Fr) : (ssL fs).length = fs.length + 1 := by unfold ssL; rw [List.length_cons, List.length_map]
theorem ssL_last (fs : List Fr) : (ssL fs)[fs.length]? = some (sumL fs) := by
 unfold ssL sumL
 rcases List.eq_nil_or_concat fs with rfl | ⟨l, f, rfl⟩
 · rfl
 · rw [List.concat_eq_append, List.getLast?_append, List.length_append, List.length_singleton, List.getElem?_cons_succ, List.getElem?_map, List.getElem?_append_right (Nat.le_refl _), Nat.sub_self]
   rfl
theorem ssL_snoc (fs : List Fr) (f : Fr) : ssL (fs ++ [f]) = ssL fs ++ [f.2.1] := by
 unfold ssL
 rw [List.map_append]
 rfl
theorem ssL_take (fs : List Fr) (n : Nat) : (ssL fs).take (n + 1) = ssL (fs.take n) := by
 unfold ssL
 rw [List.take_succ_cons, List.map_take]
theorem ssL_nil : ssL [] = [sumS topS] := rfl
theorem trimR_yes {f : Fr} (h : f.2.2 = true) : ∀ (l : List Fr), trimR (l ++ [f]) = l ++ [f]
 | [] => by show (match trimR [], f.2.2 with | [], false => [] | t, _ => f :: t) = _; rw [h]; rfl
 | g :: l => by
  have ih := trimR_yes h l
  show (match trimR (l ++ [f]), g.2.2 with | [], false => [] | t, _ => g :: t) = _
  rw [ih]
  cases l <;> rfl
theorem trimR_not {f : Fr} (h : f.2.2 = false) : ∀ (l : List Fr), trimR (l ++ [f]) = trimR l
 | [] => by show (match trimR [], f.2.2 with | [], false => [] | t, _ => f :: t) = _; rw [h]; rfl
 | g :: l => by
  have ih := trimR_not h l
  show (match trimR (l ++ [f]), g.2.2 with | [], false => [] | t, _ => g :: t) = (match trimR l, g.2.2 with | [], false => [] | t, _ => g :: t)
  rw [ih]
theorem drop_neg {D D' : DM} {s : ByteArray} (h : (0, D') = dropD D s) : sizeD D' s < 0 := by
 unfold dropD at h
 dsimp only at h
 split at h
 · rename_i h1
   exact absurd (congrArg Prod.fst h).symm h1
 · have h2 : D' = _ := congrArg Prod.snd h
   subst h2
   unfold sizeD
   rw [find_del, if_pos rfl]
   decide
theorem cut_pos {D D' : DM} {s : ByteArray} {n : Int} (hs : Sorted D.fs) (h : (0, D') = cutD D s n) : 0 ≤ sizeD D' s := by
 unfold cutD at h
 dsimp only at h
 split at h
 · rename_i h1
   exact absurd (congrArg Prod.fst h).symm h1
 · split at h
   · cases congrArg Prod.fst h
   · have h2 : D' = _ := congrArg Prod.snd h
     subst h2
     unfold sizeD
     dsimp only
     rw [find_put hs, if_pos rfl]
     exact Int.natCast_nonneg _
abbrev rlX (n k : Nat) (fs : List Fr) (ss : List Int) (ca cb : Nat) (S : Nat → Prop) (D : DM) : HP := [(0, .own 109 [ptr 1, mslice 2 n ca, mslice 3 k cb]), (1, refI S D), (2, .lst 3 1 ca (fs.map fNv)), (3, .lst 24 1 cb (ss.map uV))]
abbrev rlO (n k : Nat) (fs : List Fr) (ss : List Int) (ca cb : Nat) (S : Nat → Prop) (D : DM) : HP := [(0, refI S D), (10, .own 109 [ptr 0, mslice 11 n ca, mslice 12 k cb]), (11, .lst 3 1 ca (fs.map fNv)), (12, .lst 24 1 cb (ss.map uV))]
structure RX where
 fs : List Fr
 ss : List Int
 ca : Nat
 cb : Nat
 S : Nat → Prop
 D : DM
structure RX.Ok (x : RX) : Prop where
 ca : x.fs.length ≤ x.ca
 cb : x.ss.length ≤ x.cb
 ss : (x.ss = [] ∧ x.fs = [] ∧ sizeD x.D logN < 0) ∨ (x.ss = ssL x.fs ∧ 0 ≤ sizeD x.D logN)
inductive ROX where
 | ok (x : RX)
 | bad (e : Int) (S : Nat → Prop) (D : DM)
 | part (e : Int) (x : RX)
abbrev ROX.v : ROX → Value
 | .ok _ => .tuple #[ptr 10, iv 0]
 | .bad e _ _ => .tuple #[.pointer none, iv e]
 | .part e _ => .tuple #[ptr 10, iv e]
abbrev ROX.h : ROX → HP
 | .ok x => rlO x.fs.length x.ss.length x.fs x.ss x.ca x.cb x.S x.D
 | .bad _ S D => [(0, refI S D)]
 | .part _ x => rlO x.fs.length x.ss.length x.fs x.ss x.ca x.cb x.S x.D
def ROX.R (D : DM) : ROX → Prop
 | .ok x => ((0, x.fs), x.D) = openL D ∧ x.Ok
 | .bad e _ D' => ((e, []), D') = openL D ∧ e ≠ 0
 | .part e x => ((e, []), x.D) = openL D ∧ e ≠ 0
theorem pad_nil : strOf (padL (bytesOf ⟨#[]⟩)) = strOf (List.replicate 232 0) := congrArg strOf (by decide +kernel)
theorem ss_take {fs : List Fr} {ss : List Int} {n : Nat} (h : ss = ssL fs) : (ss.map uV).take (n + 1) = (ssL (fs.take n)).map uV := by rw [← List.map_take, h, ssL_take]
theorem fn_flat {l : List Fr} : ∀ v ∈ l.map fNv, flat1 v = true := fun v hv => by obtain ⟨x, _, rfl⟩ := List.mem_map.1 hv; rfl
theorem uv_flat {l : List Int} : ∀ v ∈ l.map uV, flat1 v = true := fun v hv => by obtain ⟨x, _, rfl⟩ := List.mem_map.1 hv; rfl
theorem fn_app {l : List Fr} {f : Fr} {x : List Value} (h : x = [iv f.1]) : l.map fNv ++ x = (l ++ [f]).map fNv := by rw [h, List.map_append]; rfl
theorem uv_app {l : List Int} {s : Int} {x : List Value} (h : x = [uV s]) : l.map uV ++ x = (l ++ [s]).map uV := by rw [h, List.map_append]; rfl
attribute [local irreducible] numOf fixedL bytesOf strOf strEq strLt sfrom closeS closeE writeD sizeD syncD cutD dropD readD topS sumS sumL ssL rightR lastM readL openL trimR addL kindL lsyncL getL lbackL lendL
theorem rnLogActs1 {p : Prop} (h : p := by refine ⟨?_, ?_, ?_⟩; (first | apply rR_tuple | apply rR_one rfl | exact rfl); all_goals (repeat' (first | (with_reducible (first | exact relH_nil | apply rn_lst | apply rn_own | apply rn_mp | apply rn_row | apply rn_abs | exact wo_nil)) | apply wo_keep rfl | apply wo_drop rfl | exact relH_nil | exact r1_flat rfl | exact r0_flat rfl | exact rl_nil | exact wo_nil | exact bk_old rfl | exact bk_new rfl | exact bk_nil rfl | apply rl_cons | (first | exact relL_flat fn_flat | exact relL_flat uv_flat | first | exact relL_still hvs | exact relL_still (still_map (fun _ => rfl) _) | exact relL_still (still_map ro_still _) | exact relL_flat (flat_map (fun _ => rfl) _) | apply relL_set) | exact relL_flat (flat_map (fun _ => rfl) _) | exact relL_flat flat_nil | apply relL_to | apply rn_lst | apply rn_own | apply rn_mp | apply rn_row | apply relH_view rfl | apply relH_lview rfl | apply relH_fact rfl | exact r1_rig | exact r0_rig | exact r1_rigs | exact r0_rigs | apply wo_keep rfl | apply wo_drop rfl | apply r1_agg | apply rn_ptr | apply rn_slice | apply rn_slice0 | apply rn_iface | apply rn_map | apply rn_ifacem | apply r0_map | apply r0_ifacem | apply r0_ptr | apply r0_slice | apply r0_slice0 | apply r0_iface)); (first | done | fail)) : p := h
theorem rltop_c (w : World) : Calls Tryz.prog 64 #[] w fun e w' => e = .returned (.string topS) ∧ Below w.heap.size w w' := by
 have hR := fun w => c_full ⟨#[]⟩ (by decide) w
 have hcl := fun w => rclose_any 4 1 0 (strOf (padL (bytesOf ⟨#[]⟩))) w ⟨by decide, by decide⟩
 obtain ⟨es, hes⟩ : ∃ es, es = closeE 4 1 (strOf (padL (bytesOf ⟨#[]⟩))) := ⟨_, rfl⟩
 have hts : closeS 4 1 (Int.toNat 0) (strOf (padL (bytesOf ⟨#[]⟩))) = topS := by rw [pad_nil]; unfold topS; rfl
 rw [hts, ← hes] at hcl
 generalize strOf (padL (bytesOf ⟨#[]⟩)) = c at *
 refine calls_pure tabOk mixed Tryz.func64 rfl [] [] rfl (Nat.le_of_ble_eq_true rfl) rfl ?_ w
 (repeat' ((try (conv => whnf)); first | (guard_target =~ ∃ (_ : Value), ∃ (_ : HP), ∃ (_ : HP), _; refine ⟨_, _, _, rnLogActs1, ?_⟩; (try (dsimp only [Nat.reduceAdd, bC, bL]))) | (guard_target =~ CallOb _ 9 _ _ _ _; (with_reducible refine call_pure Tryz.call9 (hcl) ?_ ?_ ?_); exact rfl; exact rfl) | (guard_target =~ CallOb _ 8 _ _ _ _; (with_reducible refine call_pure Tryz.call8 (hR) ?_ ?_ ?_); exact rfl; exact rfl) | (with_reducible first | refine chk_in (Nat.ble_eq_true_of_le omT) ?_ | (refine ifB_in ?_ ?_ <;> intro hb <;> (try simp only [bN1, bN2, bN3, bN4, bN5, bN6, bN7, bN8, bN9, bN0] at hb) <;> (try (exfalso; omega))) | refine ⟨_, w64b _, ?_⟩ | refine ⟨_, w64 omT omT, ?_⟩ | refine ⟨_, wu64 omT omT, ?_⟩ | refine ⟨_, wu8 omT omT, ?_⟩ | refine ⟨_, w64 szT szT, ?_⟩ | refine ⟨_, rfl, ?_⟩ | refine ⟨rfl, ?_⟩) | intro cap | (with_reducible refine ⟨trivial, ?_⟩) | (guard_target =~ (planChk _ _ = true) ∧ _; refine ⟨by kernel_rfl, ?_⟩) | (guard_target =~ (_ ∧ _) ∧ _; refine ⟨by ((repeat (first | exact trivial | refine ⟨rfl, ?_⟩)); (first | done | fail)), ?_⟩) | refine ⟨by omega, ?_⟩ | refine ⟨szT, ?_⟩ | refine ⟨0, rfl, ?_⟩ | refine ⟨1, rfl, ?_⟩ | refine ⟨2, rfl, ?_⟩ | refine ⟨3, rfl, ?_⟩ | refine ⟨4, rfl, ?_⟩ | refine ⟨5, rfl, ?_⟩ | (refine cell_at1 (by assumption) ?_) | (refine cell_in1 omT (fun x hx => ?_)) | fail)) <;> (try (conv => whnf))
 all_goals first
  | rfl
  | trace_state
structure OL where
 i : Nat
 fs : List Fr
 ss : List Int
 sure : Nat
 rt : Bool
 ca : Nat
 cb : Nat
 S : Nat → Prop
 D : DM
structure ORR (D0 : DM) (N : Int) (sz : Nat) (k : OL) : Prop where
 le : k.i ≤ sz
 run : readL (sz - k.i) k.i k.fs k.D = readL sz 0 [] D0
 ok : k.D.OkN (N + (k.i : Nat))
 ca : k.fs.length ≤ k.ca
 cb : k.ss.length ≤ k.cb
 size : sizeD k.D logN = (sz : Nat)
 rt : k.rt = decide (0 < k.i)
 ss : (k.i = 0 ∧ k.ss = [] ∧ k.fs = []) ∨ (0 < k.i ∧ k.ss = ssL k.fs ∧ k.fs.length + 1 = k.i)
 sure : k.sure ≤ k.fs.length ∧ trimR k.fs = k.fs.take k.sure
structure OJ (D0 : DM) (N : Int) (sz : Nat) (k : OL) : Prop where
 run : ((k.rt, 0, k.fs), k.D) = readL sz 0 [] D0
 ok : k.D.OkN (N + (sz : Nat))
 ca : k.fs.length ≤ k.ca
 cb : k.ss.length ≤ k.cb
 size : sizeD k.D logN = (sz : Nat)
 ss : k.rt = true → k.ss = ssL k.fs
 few : k.fs.length ≤ sz
 sure : k.sure ≤ k.fs.length ∧ trimR k.fs = k.fs.take k.sure
theorem ORR.next {D0 : DM} {N : Int} {sz : Nat} {k : OL} (h : ORR D0 N sz k) (hi : k.i < sz) : ∃ m, sz - k.i = m + 1 ∧ sz - (k.i + 1) = m ∧ readL (m + 1) k.i k.fs k.D = readL sz 0 [] D0 := by
 refine ⟨sz - (k.i + 1), by omega, rfl, ?_⟩
 rw [show sz - (k.i + 1) + 1 = sz - k.i by omega]
 exact h.run
theorem ORR.gone {D0 : DM} {N : Int} {sz : Nat} {i sure ca cb : Nat} {fs : List Fr} {ss : List Int} {rt : Bool} {S : Nat → Prop} {D : DM} (h : ORR D0 N sz ⟨i, fs, ss, sure, rt, ca, cb, S, D⟩) {D' : DM} {S' : Nat → Prop} (hk : D'.OkN (N + (i : Nat) + 1)) (hi : i < sz) (hs : sizeD D' logN = sizeD D logN) (hr : ((rt, 0, fs), D') = readL sz 0 [] D0) : OJ D0 N sz ⟨i, fs, ss, sure, rt, ca, cb, S', D'⟩ := by
 obtain ⟨h1, h2, h3, h4, h5, h6, h7, h8, h9⟩ := h
 dsimp only at *
 refine ⟨hr, hk.mono (by omega), h4, h5, hs.trans h6, fun e => ?_, ?_, h9⟩
 · rcases h8 with ⟨e1, _⟩ | ⟨_, e2, _⟩
   · subst e1; rw [h7] at e; cases e
   · exact e2
 · rcases h8 with ⟨_, _, e3⟩ | ⟨_, _, e3⟩
   · dsimp only; rw [e3]; exact Nat.zero_le _
   · dsimp only; omega
theorem ORR.all {D0 : DM} {N : Int} {sz : Nat} {i sure ca cb : Nat} {fs : List Fr} {ss : List Int} {rt : Bool} {S : Nat → Prop} {D : DM} (h : ORR D0 N sz ⟨i, fs, ss, sure, rt, ca, cb, S, D⟩) {S' : Nat → Prop} (hi : sz ≤ i) : OJ D0 N sz ⟨i, fs, ss, sure, rt, ca, cb, S', D⟩ := by
 obtain ⟨h1, h2, h3, h4, h5, h6, h7, h8, h9⟩ := h
 dsimp only at *
 obtain rfl : i = sz := by omega
 rw [Nat.sub_self, readL_0, h6] at h2
 have e0 : decide (0 < i) = decide ((0 : Int) < ((i : Nat) : Int)) := decide_eq_decide.2 (by omega)
 refine ⟨by dsimp only; rw [← h2, h7, e0], h3, h4, h5, h6, fun e => ?_, ?_, h9⟩
 · rcases h8 with ⟨e1, _⟩ | ⟨_, e2, _⟩
   · subst e1; rw [h7] at e; cases e
   · exact e2
 · rcases h8 with ⟨_, _, e3⟩ | ⟨_, _, e3⟩
   · dsimp only; rw [e3]; exact Nat.zero_le _
   · dsimp only; omega
theorem ORR.top {D0 : DM} {N : Int} {sz : Nat} {i sure ca cb : Nat} {fs : List Fr} {ss : List Int} {rt : Bool} {S : Nat → Prop} {D : DM} (h : ORR D0 N sz ⟨i, fs, ss, sure, rt, ca, cb, S, D⟩) (hi : i = 0) (hz : i < sz) {D' : DM} {S' : Nat → Prop} {cN : Nat} (hk : D'.OkN (N + (i : Nat) + 1)) (hs : sizeD D' logN = sizeD D logN) (hc : ss.length + 1 ≤ cN) {x : Int} (hx : x = sumS topS) (hr : readL (sz - (i + 1)) (i + 1) fs D' = readL sz 0 [] D0) : ORR D0 N sz ⟨i + 1, fs, ss ++ [x], sure, true, ca, cN, S', D'⟩ := by
 obtain ⟨h1, h2, h3, h4, h5, h6, h7, h8, h9⟩ := h
 dsimp only at *
 obtain ⟨e1, e2, e3⟩ : i = 0 ∧ ss = [] ∧ fs = [] := by rcases h8 with h | h; exact h; omega
 subst e2 e3 hx
 exact ⟨hz, hr, hk.mono (by dsimp only; omega), h4, hc, hs.trans h6, (decide_eq_true (by dsimp only; omega)).symm, .inr ⟨by dsimp only; omega, ssL_nil.symm, by dsimp only; simp only [List.length_nil]; omega⟩, h9⟩
theorem ORR.fr {D0 : DM} {N : Int} {sz : Nat} {i sure ca cb : Nat} {fs : List Fr} {ss : List Int} {rt : Bool} {S : Nat → Prop} {D : DM} (h : ORR D0 N sz ⟨i, fs, ss, sure, rt, ca, cb, S, D⟩) (hi : ¬ i = 0) (hz : i < sz) {D' : DM} {S' : Nat → Prop} {cM cN : Nat} (hk : D'.OkN (N + (i : Nat) + 1)) (hs : sizeD D' logN = sizeD D logN) (hca : fs.length + 1 ≤ cM) (hc : ss.length + 1 ≤ cN) (f : Fr) (sure' : Nat) (hsu : (f.2.2 = true ∧ sure' = fs.length + 1) ∨ (f.2.2 = false ∧ sure' = sure)) (hr : readL (sz - (i + 1)) (i + 1) (fs ++ [f]) D' = readL sz 0 [] D0) : ORR D0 N sz ⟨i + 1, fs ++ [f], ss ++ [f.2.1], sure', rt, cM, cN, S', D'⟩ := by
 obtain ⟨h1, h2, h3, h4, h5, h6, h7, h8, h9⟩ := h
 dsimp only at *
 obtain ⟨_, e2, e3⟩ : 0 < i ∧ ss = ssL fs ∧ fs.length + 1 = i := by rcases h8 with h | h; exact absurd h.1 hi; exact h
 subst e2
 have el : (fs ++ [f]).length = fs.length + 1 := by rw [List.length_append]; rfl
 refine ⟨hz, hr, hk.mono (by dsimp only; omega), by dsimp only; rw [el]; exact hca, by dsimp only; rw [List.length_append]; exact hc, hs.trans h6, by dsimp only; rw [h7]; exact decide_eq_decide.2 (by omega), .inr ⟨by dsimp only; omega, (ssL_snoc fs f).symm, by dsimp only; rw [el]; omega⟩, ?_⟩
 rcases hsu with ⟨q1, rfl⟩ | ⟨q1, rfl⟩
 · exact ⟨by dsimp only; rw [el]; exact Nat.le_refl _, by dsimp only; rw [trimR_yes q1, List.take_of_length_le (by rw [el]; exact Nat.le_refl _)]⟩
 · exact ⟨by dsimp only; rw [el]; omega, by dsimp only; rw [trimR_not q1, h9.2, List.take_append_of_le_length h9.1]⟩
theorem cvLogActs2 {p : Prop} (h : p := by have nw := True.intro; (repeat' (first | exact True.intro | (with_reducible exact rfl) | (with_reducible exact AbsLe.refl) | (guard_target =~ @Eq Nat _ _; first | exact rfl | omega) | (guard_target =~ List.map _ _ = []; exact rfl) | (first | (guard_target =~ @Eq Nat _ _; (try dsimp only); first | omega | ((simp only [List.length_append, List.length_singleton, List.length_take, List.length_nil, ssL_len]) <;> omega)) | exact covP_take sure (covL_of (List.map_take ..).symm fn_flat) | exact covP_take (sure + 1) (covL_of (ss_take hse) uv_flat) | (guard_target =~ List.map _ _ = []; exact rfl) | exact covL_of (fn_app rfl) fn_flat | exact covL_of (uv_app rfl) uv_flat | exact covL_of rfl fn_flat | exact covL_of rfl uv_flat | first | exact covL_still rfl hvs | exact covL_still rfl (still_map (fun _ => rfl) _) | exact covL_still rfl (still_map ro_still _) | (apply covL_set <;> (try clear nw) <;> have nw := True.intro) | exact congrArg (Value.int _) (by (try dsimp only); omega)) | (exact congrArg (Value.int _) (by omega)) | (exact covL_flat (flat_map (fun _ => rfl) _)) | (exact covL_flat flat_nil) | (refine covP_all ?_; (try clear nw); have nw := True.intro) | (refine covL_each ?_; (try clear nw); have nw := True.intro) | (refine ⟨?_, ?_⟩ <;> (try clear nw) <;> have nw := True.intro) | (guard_hyp nw : True; ((conv => whnf) <;> clear nw)))); (first | done | fail)) : p := h
set_option maxRecDepth 100000 in
set_option maxHeartbeats 8000000 in
theorem rlopen_c (S : Nat → Prop) (D : DM) {N : Int} (hD : D.OkN N) (hN : N ≤ 800000000) :
 CallOb Tryz.prog 16 [ptr 0] [(0, refI S D)] 1 (fun v h m => ∃ x : ROX, x.R D ∧ v = x.v ∧ h = x.h ∧ m = 1500) := by
 refine call_spec tabOk mixed Tryz.call16 Tryz.func16 rfl [(18, [(0, true), (1, true), (2, true), (3, true), (4, true), (5, true), (6, false), (7, false), (1008, false), (9, true), (10, true), (1011, false)]), (20, [(0, true), (1, true), (2, true), (3, true), (4, true), (5, true), (6, true), (7, true), (8, true), (9, true), (10, true), (11, true), (12, true), (13, true), (14, true), (15, true), (16, true), (17, true), (18, true), (19, true), (20, true), (21, true), (22, true), (23, true), (24, true), (25, true), (26, true), (27, true), (28, true), (29, true)]), (21, [(0, true), (1, true), (2, true), (3, true), (4, true), (5, true), (6, true), (7, false), (1008, false), (9, true), (10, true), (1011, false)]), (22, [(0, true), (1, true), (2, true), (3, true), (4, true), (5, true), (6, false), (7, false), (1008, false), (9, true), (10, true), (1011, false)])] (fun x : ROX => x.R D) (fun x => x.v) (fun x => x.h) (fun _ => 1500) ?_ ?_
 · exact (Nat.le_of_ble_eq_true rfl)
 have mk0 : 1 = 1 := rfl
 (repeat' ((try (conv => whnf)); first | (guard_target =~ ∃ (_ : Value), ∃ (_ : HP), ∃ (_ : HP), _; refine ⟨_, _, _, rnLogActs1, ?_⟩; (try (dsimp only [Nat.reduceAdd, bC, bL]))) | (guard_target =~ CallOb _ 18 _ _ _ _; first | (guard_hyp mk0 : 1 = 1; clear mk0; refine call_q (rsize_q S D (up_ok hD omT) logN) [(0, some 0)] cvLogActs2 rfT rfT rfT (fun v h1 n1 hp => ?_); obtain ⟨sz, S, hsz, rfl, rfl, rfl⟩ := hp; have mk1 : 1 = 1 := rfl; (try (dsimp only [Nat.reduceAdd, bC, bL]))) | (guard_hyp mk2 : 1 = 1; clear mk2; refine call_q (rsize_q S1 D1 (up_ok hko omT) logN) [(0, some 0)] cvLogActs2 rfT rfT rfT (fun v h1 n1 hp => ?_); obtain ⟨sy, S1, hsy, rfl, rfl, rfl⟩ := hp; rw [hks] at hsy; subst hsy; (try (dsimp only [Nat.reduceAdd, bC, bL]))) | (guard_hyp hj : OJ D N zz _; refine call_q (rsize_q Sj Dj (up_ok hjo omT) logN) [(0, some 0)] cvLogActs2 rfT rfT rfT (fun v h1 n1 hp => ?_); obtain ⟨sy, Sj, hsy, rfl, rfl, rfl⟩ := hp; (try (dsimp only [Nat.reduceAdd, bC, bL])))) | (guard_target =~ LoopOb _ _ _ _ _ _ _ _; guard_hyp mk1 : 1 = 1; obtain ⟨zz, hzz⟩ := Int.eq_ofNat_of_zero_le (show 0 ≤ sz by omega); have hz2 : sizeD D logN = (zz : Nat) := (by rw [← hsz, hzz]); have hzb := sizeD_bound (up_ok hD omT) logN; refine loop_join tabOk mixed [(18, [(0, true), (1, true), (2, true), (3, true), (4, true), (5, true), (6, false), (7, false), (1008, false), (9, true), (10, true), (1011, false)]), (20, [(0, true), (1, true), (2, true), (3, true), (4, true), (5, true), (6, true), (7, true), (8, true), (9, true), (10, true), (11, true), (12, true), (13, true), (14, true), (15, true), (16, true), (17, true), (18, true), (19, true), (20, true), (21, true), (22, true), (23, true), (24, true), (25, true), (26, true), (27, true), (28, true), (29, true)]), (21, [(0, true), (1, true), (2, true), (3, true), (4, true), (5, true), (6, true), (7, false), (1008, false), (9, true), (10, true), (1011, false)]), (22, [(0, true), (1, true), (2, true), (3, true), (4, true), (5, true), (6, false), (7, false), (1008, false), (9, true), (10, true), (1011, false)])] 4 (fun k : OL => [(0, ptr 0), (4, ptr 1), (5, iv ((k.sure : Nat) : Int)), (6, .bool k.rt), (7, iv ((k.i : Nat) : Int))]) (fun k => [(0, refI k.S k.D), (1, .own 109 [ptr 0, mslice 2 k.fs.length k.ca, mslice 3 k.ss.length k.cb]), (2, .lst 3 1 k.ca (k.fs.map fNv)), (3, .lst 24 1 k.cb (k.ss.map uV))]) (fun k => zz - k.i) (fun k => ORR D N zz k) ⟨0, [], [], 0, false, 0, 0, S, D⟩ 0 4 (fun x : OL => [(0, ptr 0), (4, ptr 1), (5, iv ((x.sure : Nat) : Int)), (6, .bool x.rt)]) (fun x => [(0, refI x.S x.D), (1, .own 109 [ptr 0, mslice 2 x.fs.length x.ca, mslice 3 x.ss.length x.cb]), (2, .lst 3 1 x.ca (x.fs.map fNv)), (3, .lst 24 1 x.cb (x.ss.map uV))]) (fun x => OJ D N zz x) ⟨Nat.zero_le _, rfl, hD.mono (by dsimp only; omega), Nat.le_refl _, Nat.le_refl _, hz2, rfl, .inl ⟨rfl, rfl, rfl⟩, Nat.zero_le _, by unfold trimR; rfl⟩ ⟨[(1, some _), (2, none), (3, none)], Sub.q cvLogActs2 (by rfl) (by rfl)⟩ (fun k hk => ?_) (fun x hx => ?_)) | (guard_hyp k : OL; have hk2 := hk; rcases k with ⟨i, fs, ss, sure, rt, ca, cb, S1, D1⟩; dsimp only at hk hk2 ⊢; have hki := hk.le; have hko := hk.ok; have hka := hk.ca; have hkb := hk.cb; have hks := hk.size; have hss := hk.ss; have hkt := hk.rt; have hku := hk.sure.1; dsimp only at hki hko hka hkb hks hss hkt hku; have hsn : ss.length ≤ i := (by rcases hss with ⟨_, h, _⟩ | ⟨_, h, h2⟩; all_goals (rw [h]); all_goals (first | exact Nat.zero_le _ | (rw [ssL_len]; omega))); have mk2 : 1 = 1 := rfl; have mk3 : 1 = 1 := rfl) | (guard_hyp x : OL; rcases x with ⟨ix, fs, ss, sure, rt, ca, cb, Sj, Dj⟩; have hj : OJ D N zz ⟨ix, fs, ss, sure, rt, ca, cb, Sj, Dj⟩ := hx; clear hx; have hjo := hj.ok; have hja := hj.ca; have hjb := hj.cb; have hjs := hj.size; have hjf := hj.few; have hju := hj.sure.1; have hjv := hj.sure.2; have hjr := hj.run; have hjw := hj.ss; dsimp only at hjo hja hjb hjs hjf hju hjv hjr hjw ⊢) | (guard_target =~ CallOb _ 63 _ _ _ _; refine call_q (rread_c S1 D1 (up_ok hko omT) logN (i : Nat)) [(0, some 0)] cvLogActs2 rfT rfT rfT (fun v h1 n1 hp => ?_); obtain ⟨⟨sr, er⟩, D2, S2, hr, rfl, rfl, rfl⟩ := hp; have hok2 := read_okN hko logN ((i : Nat) : Int); rw [← hr] at hok2; dsimp only at hok2; have hs2 := read_size D1 logN ((i : Nat) : Int) logN; rw [← hr] at hs2; dsimp only at hs2; obtain ⟨m, hm1, hm2, hm3⟩ := hk.next (by dsimp only; omega); dsimp only at hm1 hm2 hm3; have hsm : ∀ w, Calls Tryz.prog 10 #[.string sr] w fun e w' => e = .returned (.int .u64 (sumS sr)) ∧ w = w' := (fun w => by have := rsealSum_any sr w; rw [show ((sumAt (bytesOf sr) : Nat) : Int) = sumS sr by unfold sumS; rfl] at this; exact this); obtain ⟨ok, on, os, oe, od, ho1, ho2, ho3, ho4⟩ := open_vals sr; have hop : ∀ w, Calls Tryz.prog 65 #[.string sr] w fun e w' => e = .returned (.tuple #[.agg #[.int .i64 ok, .int .i64 on, .int .u64 os, .string od], .int .i64 oe]) ∧ Below w.heap.size w w' := (fun w => by have := ropen_any sr w; rw [ho1, ho2] at this; exact this); obtain ⟨R1, R2⟩ := right_is (c := sumL fs) ho2 ho3; (try (dsimp only [Nat.reduceAdd, bC, bL]))) | (guard_target =~ ∃ (k : Nat), (k : Int) = ((i : Nat) : Int) - 1 ∧ _; have hse : ss = ssL fs := (by rcases hss with h | h; exact absurd h.1 omT; exact h.2.1); have hfi : fs.length + 1 = i := (by rcases hss with h | h; exact absurd h.1 omT; exact h.2.2); have hsl := ssL_len fs; have hlast := ssL_last fs; refine ⟨fs.length, by omega, by rw [hse]; omega, ?_⟩) | (guard_hyp hlast : _ = some (sumL fs); refine onS_in (v := .int .u64 (sumL fs)) (by show (ss.map uV)[0 + fs.length * 1 + 0]? = _; rw [hse, Nat.zero_add, Nat.mul_one, Nat.add_zero, List.getElem?_map, hlast]; rfl) ?_) | (guard_target =~ CallOb _ 64 _ _ _ _; (with_reducible refine call_pure Tryz.call64 (rltop_c) ?_ ?_ ?_); exact rfl; exact rfl) | (guard_target =~ CallOb _ 10 _ _ _ _; (with_reducible refine call_same Tryz.call10 (hsm) ?_ ?_ ?_); exact rfl; exact rfl) | (guard_target =~ CallOb _ 65 _ _ _ _; (with_reducible refine call_pure Tryz.call65 (hop) ?_ ?_ ?_); exact rfl; exact rfl) | (guard_target =~ CallOb _ 66 _ _ _ _; refine call_q (rdrop_c Sj Dj (up_ok hjo omT) logN) [(0, some 0)] cvLogActs2 rfT rfT rfT (fun v h1 n1 hp => ?_); obtain ⟨ed, D2, S2, hd, rfl, rfl, rfl⟩ := hp; (try (dsimp only [Nat.reduceAdd, bC, bL]))) | (guard_target =~ CallOb _ 67 _ _ _ _; refine call_q (rcut_c Sj Dj (up_ok hjo omT) logN (((sure : Nat) : Int) + 1)) [(0, some 0)] cvLogActs2 rfT rfT rfT (fun v h1 n1 hp => ?_); obtain ⟨ec, D3, S3, hd3, rfl, rfl, rfl⟩ := hp; (try (dsimp only [Nat.reduceAdd, bC, bL]))) | (guard_target =~ ∃ (k : Nat), (k : Int) = ((sure : Nat) : Int) ∧ _; have hse := hjw ‹rt = true›; have hsl := ssL_len fs; have hsn : ss.length = fs.length + 1 := (by rw [hse]; exact hsl); refine ⟨sure, rfl, by omega, ?_⟩) | (guard_target =~ ∃ (k : Nat), (k : Int) = ((sure : Nat) : Int) + 1 ∧ _; refine ⟨sure + 1, by omega, by omega, ?_⟩) | (refine ⟨(by rw [List.length_map, Nat.mul_one]), ?_⟩) | (with_reducible first | refine chk_in (Nat.ble_eq_true_of_le omT) ?_ | (refine ifB_in ?_ ?_ <;> intro hb <;> (try simp only [bN1, bN2, bN3, bN4, bN5, bN6, bN7, bN8, bN9, bN0] at hb) <;> (try (exfalso; omega))) | refine ⟨_, w64b _, ?_⟩ | refine ⟨_, w64 omT omT, ?_⟩ | refine ⟨_, wu64 omT omT, ?_⟩ | refine ⟨_, wu8 omT omT, ?_⟩ | refine ⟨_, w64 szT szT, ?_⟩ | refine ⟨_, rfl, ?_⟩ | refine ⟨rfl, ?_⟩) | intro cap | (with_reducible refine ⟨trivial, ?_⟩) | (guard_target =~ (planChk _ _ = true) ∧ _; refine ⟨by kernel_rfl, ?_⟩) | (guard_target =~ (_ ∧ _) ∧ _; refine ⟨by ((repeat (first | exact trivial | refine ⟨rfl, ?_⟩)); (first | done | fail)), ?_⟩) | refine ⟨by omega, ?_⟩ | refine ⟨szT, ?_⟩ | refine ⟨0, rfl, ?_⟩ | refine ⟨1, rfl, ?_⟩ | refine ⟨2, rfl, ?_⟩ | refine ⟨3, rfl, ?_⟩ | refine ⟨4, rfl, ?_⟩ | refine ⟨5, rfl, ?_⟩ | (refine cell_at1 (by assumption) ?_) | (refine cell_in1 omT (fun x hx => ?_)) | fail)) <;> (try (conv => whnf))
 all_goals first
  | (exfalso; omega)
  | (guard_hyp hb : sz < 0; (refine Ends.go ((.ok ⟨[], [], 0, 0, S, D⟩ : ROX)) ?_ [(0, some 0), (10, some 1), (11, none), (12, none)] (Fit.q cvLogActs2 (by rfl) (by rfl))); exact ⟨(open_neg (hsz ▸ hb)).symm, Nat.le_refl _, Nat.le_refl _, .inl ⟨rfl, rfl, hsz ▸ hb⟩⟩)
  | (guard_hyp hb : er = 13; (refine Gone.go ((⟨i, fs, ss, sure, rt, ca, cb, S2, D2⟩ : OL)) ?_ [(1, some 1), (2, some 2), (3, some 3)] (Sub.q cvLogActs2 (by rfl) (by rfl))); exact hk.gone hok2 (by omega) hs2 (by rw [hkt]; exact (readL_torn hr hb).symm.trans hm3))
  | (guard_hyp hb : ¬ er = 0; (refine Ends.go ((.bad er S2 D2 : ROX)) ?_ [(0, some 0)] (Fit.q cvLogActs2 (by rfl) (by rfl))); exact ⟨(open_err hz2 ((readL_err hr ‹¬ er = 13› hb).symm.trans hm3) hb).symm, hb⟩)
  | (guard_hyp hb : strEq sr topS = false; (refine Gone.go ((⟨i, fs, ss, sure, rt, ca, cb, S2, D2⟩ : OL)) ?_ [(1, some 1), (2, some 2), (3, some 3)] (Sub.q cvLogActs2 (by rfl) (by rfl))); exact hk.gone hok2 (by omega) hs2 (by rw [hkt, decide_eq_false (by omega)]; exact (readL_bad hr ‹er = 0› (by omega) (strEq_ne hb)).symm.trans hm3))
  | (have hts : strEq sr topS = true := ‹_›; (refine Again.go ((⟨i + 1, fs, ss ++ [sumS sr], sure, true, ca, _, S2, D2⟩ : OL)) ?_ (by (try dsimp only); omega) [(1, some 1), (2, some 2), (3, some _)] (Sub.q cvLogActs2 (by rfl) (by rfl))); exact hk.top (by omega) (by omega) hok2 hs2 (by assumption) (by rw [strEq_is hts]) (by rw [hm2]; exact (readL_top hr ‹er = 0› (by omega) (strEq_is hts)).symm.trans hm3))
  | (have hon : on < 4096 := ‹_›; have hos : os = sumL fs := ‹_›; have hrf := R1 ‹oe = 0› (by omega) hon hos; first
   | (have h6 : ok = 6 := ‹_›; (refine Again.go ((⟨i + 1, fs ++ [(on, sumS sr, decide (ok = 6))], ss ++ [sumS sr], fs.length + 1, rt, _, _, S2, D2⟩ : OL)) ?_ (by (try dsimp only); omega) [(1, some 1), (2, some _), (3, some _)] (Sub.q cvLogActs2 (by rfl) (by rfl))); exact hk.fr (by omega) (by omega) hok2 hs2 (by assumption) (by assumption) (on, sumS sr, decide (ok = 6)) (fs.length + 1) (.inl ⟨decide_eq_true h6, rfl⟩) (by rw [hm2]; exact (readL_go hr ‹er = 0› (by omega) hrf).symm.trans hm3))
   | ((refine Again.go ((⟨i + 1, fs ++ [(on, sumS sr, decide (ok = 6))], ss ++ [sumS sr], sure, rt, _, _, S2, D2⟩ : OL)) ?_ (by (try dsimp only); omega) [(1, some 1), (2, some _), (3, some _)] (Sub.q cvLogActs2 (by rfl) (by rfl))); exact hk.fr (by omega) (by omega) hok2 hs2 (by assumption) (by assumption) (on, sumS sr, decide (ok = 6)) sure (.inr ⟨decide_eq_false (by omega), rfl⟩) (by rw [hm2]; exact (readL_go hr ‹er = 0› (by omega) hrf).symm.trans hm3)))
  | (guard_target =~ Gone _ _ _ _ _ _ _; have e0 : decide (0 < i) = decide (0 < sizeD D2 logN) := decide_eq_decide.2 (by rw [hs2, hks]; omega); (refine Gone.go ((⟨i, fs, ss, sure, rt, ca, cb, S2, D2⟩ : OL)) ?_ [(1, some 1), (2, some 2), (3, some 3)] (Sub.q cvLogActs2 (by rfl) (by rfl))); exact hk.gone hok2 (by omega) hs2 (by rw [hkt, e0]; exact (readL_stop hr ‹er = 0› (by omega) (R2 (fun hh => by omega))).symm.trans hm3))
  | (guard_target =~ Gone _ _ _ _ _ _ _; (refine Gone.go ((⟨i, fs, ss, sure, rt, ca, cb, S1, D1⟩ : OL)) ?_ [(1, some 1), (2, some 2), (3, some 3)] (Sub.q cvLogActs2 (by rfl) (by rfl))); exact hk.all (by omega))
  | (guard_hyp hd : (ed, D2) = dropD Dj logN; rcases Classical.em (ed = 0) with h0 | h0; all_goals first
   | (guard_hyp h0 : ed = 0; (refine Ends.go ((.ok ⟨[], [], 0, 0, S2, D2⟩ : ROX)) ?_ [(0, some 0), (10, some 4), (11, none), (12, none)] (Fit.q cvLogActs2 (by rfl) (by rfl))); exact ⟨by dsimp only; rw [open_drop hz2 hjr rfl hb hd, h0], Nat.le_refl _, Nat.le_refl _, .inl ⟨rfl, rfl, drop_neg (by rw [← h0]; exact hd)⟩⟩)
   | ((refine Ends.go ((.part ed ⟨[], [], 0, 0, S2, D2⟩ : ROX)) ?_ [(0, some 0), (10, some 4), (11, none), (12, none)] (Fit.q cvLogActs2 (by rfl) (by rfl))); exact ⟨(open_drop hz2 hjr rfl hb hd).symm, h0⟩))
  | (guard_hyp hd3 : (ec, D3) = _; have hrt : rt = true := ‹_›; have hd4 : (ec, D3) = cutD Dj logN (1 + ((sure : Nat) : Int)) := (by rw [Int.add_comm]; exact hd3); have hop4 := open_cut hz2 hjr rfl hrt hju hjv (by omega) hd4; have htl : (fs.take sure).length = sure := (by rw [List.length_take]; omega); rcases Classical.em (ec = 0) with h0 | h0; all_goals first
   | (guard_hyp h0 : ec = 0; (refine Ends.go ((.ok ⟨fs.take sure, ssL (fs.take sure), ca, cb, S3, D3⟩ : ROX)) ?_ [(0, some 0), (10, some 1), (11, some 2), (12, some 3)] (Fit.q cvLogActs2 (by rfl) (by rfl))); exact ⟨(hop4.2 h0).symm, by dsimp only; omega, by dsimp only; rw [ssL_len]; omega, .inr ⟨rfl, cut_pos (up_ok hjo (by omega)).fs.sorted (by rw [← h0]; exact hd3)⟩⟩)
   | ((refine Ends.go ((.part ec ⟨fs.take sure, ssL (fs.take sure), ca, cb, S3, D3⟩ : ROX)) ?_ [(0, some 0), (10, some 1), (11, some 2), (12, some 3)] (Fit.q cvLogActs2 (by rfl) (by rfl))); exact ⟨(hop4.1 h0).symm, h0⟩))
  | (guard_hyp hjv : trimR fs = _; have hrt : rt = true := ‹_›; have htl : (fs.take sure).length = sure := (by rw [List.length_take]; omega); (refine Ends.go ((.ok ⟨fs.take sure, ssL (fs.take sure), ca, cb, Sj, Dj⟩ : ROX)) ?_ [(0, some 0), (10, some 1), (11, some 2), (12, some 3)] (Fit.q cvLogActs2 (by rfl) (by rfl))); exact ⟨(open_keep hz2 hjr rfl hrt hju hjv (by omega)).symm, by dsimp only; omega, by dsimp only; rw [ssL_len]; omega, .inr ⟨rfl, by dsimp only; rw [hjs]; exact Int.natCast_nonneg _⟩⟩)
  | trace_state
end Go.Proofs.YtcojbjakopkfbaaGreat
namespace Go.Proofs.YtcojbjakopkfbaaGreat
open Go.RowKit
set_option linter.unusedSimpArgs false
set_option linter.unusedVariables false
attribute [local irreducible] numOf fixedL bytesOf strOf strEq strLt sfrom closeS closeE writeD sizeD syncD cutD dropD readD topS sumS sumL ssL rightR lastM readL openL trimR addL kindL lsyncL getL lbackL lendL
end Go.Proofs.YtcojbjakopkfbaaGreat
namespace Go.Proofs.YtcojbjakopkfbaaGreat
open Go.RowKit
set_option linter.unusedSimpArgs false
set_option linter.unusedVariables false
theorem lookL_step {fs : List Fr} {n : Int} {j : Nat} {f : Fr} (hf : fs[j]? = some f) : lookI (lastM (fs.take (j + 1))) n = if n = f.1 then some ((j : Nat) : Int) else lookI (lastM (fs.take j)) n := by
 rw [lastM_take hf, look_put]
theorem lookL_all (fs : List Fr) (n : Int) : lookI (lastM fs) n = lookI (lastM (fs.take fs.length)) n := by rw [List.take_length]
theorem lookL_none (fs : List Fr) (n : Int) : lookI (lastM (fs.take 0)) n = none := by rw [List.take_zero]; rfl
def pgsN (m : Nat) (fs : List Fr) : List Int := ((List.range m).map fun k => ((k : Nat) : Int)).filter fun a => fs.any fun f => f.1 == a
theorem pgsN_0 (fs : List Fr) : pgsN 0 fs = [] := rfl
theorem pgsN_yes {m : Nat} {fs : List Fr} {f : Fr} (hf : f ∈ fs) (h : f.1 = (m : Nat)) : pgsN (m + 1) fs = pgsN m fs ++ [((m : Nat) : Int)] := by
 unfold pgsN
 rw [List.range_succ, List.map_append, List.filter_append]
 congr 1
 have : (fs.any fun g => g.1 == ((m : Nat) : Int)) = true := List.any_eq_true.2 ⟨f, hf, by simpa using h⟩
 show List.filter _ [((m : Nat) : Int)] = _
 rw [List.filter_cons, if_pos (show _ = true from this)]
 rfl
theorem pgsN_no {m : Nat} {fs : List Fr} (h : ∀ f ∈ fs, ¬ f.1 = (m : Nat)) : pgsN (m + 1) fs = pgsN m fs := by
 unfold pgsN
 rw [List.range_succ, List.map_append, List.filter_append]
 have : (fs.any fun g => g.1 == ((m : Nat) : Int)) = false := by
  rw [← Bool.not_eq_true, List.any_eq_true]
  rintro ⟨f, hf, h2⟩
  exact h f hf (by simpa using h2)
 have e : (([m].map fun k => ((k : Nat) : Int)).filter fun a => fs.any fun f => f.1 == a) = [] := by
  show List.filter _ [((m : Nat) : Int)] = _
  rw [List.filter_cons, if_neg (fun h => by have h : (fs.any fun g => g.1 == ((m : Nat) : Int)) = true := h; rw [this] at h; cases h)]
  rfl
 rw [e, List.append_nil]
theorem pgsN_nil (m : Nat) : pgsN m [] = [] := by
 unfold pgsN
 rw [List.filter_eq_nil_iff]
 intro a _
 simp
theorem pgsN_len (m : Nat) (fs : List Fr) : (pgsN m fs).length ≤ m := by
 unfold pgsN
 refine Nat.le_trans (List.length_filter_le _ _) ?_
 rw [List.length_map, List.length_range]
 exact Nat.le_refl _
structure GI where
 j : Nat
attribute [local irreducible] numOf fixedL bytesOf strOf strEq strLt sfrom closeS closeE writeD sizeD syncD cutD dropD readD topS sumS sumL ssL rightR lastM readL openL trimR addL kindL lsyncL getL lbackL lendL lookI pgsN
theorem cvLogActs4 {p : Prop} (h : p := by have nw := True.intro; (repeat' (first | exact True.intro | (with_reducible exact rfl) | (with_reducible exact AbsLe.refl) | (guard_target =~ @Eq Nat _ _; first | exact rfl | omega) | (guard_target =~ List.map _ _ = []; exact rfl) | (first | (guard_target =~ @Eq Nat _ _; (try dsimp only); first | omega | ((simp only [List.length_append, List.length_singleton, List.length_take, List.length_nil, List.length_cons, ssL_len]) <;> omega)) | (guard_target =~ List.map _ _ = []; exact rfl) | exact covL_of rfl fn_flat | exact covL_of rfl uv_flat | first | exact covL_still rfl hvs | exact covL_still rfl (still_map (fun _ => rfl) _) | exact covL_still rfl (still_map ro_still _) | (apply covL_set <;> (try clear nw) <;> have nw := True.intro) | exact congrArg (Value.int _) (by (try dsimp only); omega)) | (exact congrArg (Value.int _) (by omega)) | (exact covL_flat (flat_map (fun _ => rfl) _)) | (exact covL_flat flat_nil) | (refine covP_all ?_; (try clear nw); have nw := True.intro) | (refine covL_each ?_; (try clear nw); have nw := True.intro) | (refine ⟨?_, ?_⟩ <;> (try clear nw) <;> have nw := True.intro) | (guard_hyp nw : True; ((conv => whnf) <;> clear nw)))); (first | done | fail)) : p := h
set_option maxRecDepth 100000 in
set_option maxHeartbeats 1000000 in
theorem rlget_c (fs : List Fr) (ss : List Int) (ca cb : Nat) (S : Nat → Prop) (D : DM) {N : Int} (hD : D.OkN N) (hN : N ≤ 900000000) (hl : fs.length ≤ 100000) (n : Int) :
 CallOb Tryz.prog 25 [ptr 0, iv n] (rlX fs.length ss.length fs ss ca cb S D) 4 (fun v h m => ∃ x : (ByteArray × Bool × Int) × DM × (Nat → Prop), (x.1, x.2.1) = getL fs D n ∧ v = .tuple #[.string x.1.1, .bool x.1.2.1, iv x.1.2.2] ∧ h = rlX fs.length ss.length fs ss ca cb x.2.2 x.2.1 ∧ m = 300) := by
 refine call_spec tabOk mixed Tryz.call25 Tryz.func25 rfl [] (fun x : (ByteArray × Bool × Int) × DM × (Nat → Prop) => (x.1, x.2.1) = getL fs D n) (fun x => .tuple #[.string x.1.1, .bool x.1.2.1, iv x.1.2.2]) (fun x => rlX fs.length ss.length fs ss ca cb x.2.2 x.2.1) (fun _ => 300) ?_ ?_
 · exact (Nat.le_of_ble_eq_true rfl)
 (repeat' ((try (conv => whnf)); first | (guard_target =~ ∃ (_ : Value), ∃ (_ : HP), ∃ (_ : HP), _; refine ⟨_, _, _, rnLogActs1, ?_⟩; (try (dsimp only [Nat.reduceAdd, bC, bL]))) | (guard_target =~ LoopOb _ _ _ _ _ _ _ _; refine loop_rule tabOk mixed [] 4 (fun k : GI => [(0, ptr 0), (1, iv n), (7, iv (((k.j : Nat) : Int) - 1))]) (fun k => rlX fs.length ss.length fs ss ca cb S D) (fun k => k.j) (fun k => k.j ≤ fs.length ∧ lookI (lastM fs) n = lookI (lastM (fs.take k.j)) n) ⟨fs.length⟩ ⟨Nat.le_refl _, lookL_all fs n⟩ ⟨[(0, some 0), (1, some 1), (2, some 2), (3, some 3)], Sub.q cvLogActs4 (by rfl) (by rfl)⟩ (fun k hk => ?_)) | (guard_hyp k : GI; rcases k with ⟨j⟩; obtain ⟨h1, h2⟩ := hk; dsimp only at h1 h2 ⊢; have mkI : 1 = 1 := rfl) | (guard_target =~ ∃ (k : Nat), (k : Int) = ((j : Nat) : Int) - 1 ∧ _; guard_hyp mkI : 1 = 1; obtain ⟨j, rfl⟩ : ∃ i, j = i + 1 := ⟨j - 1, by omega⟩; obtain ⟨f, hf⟩ : ∃ f, fs[j]? = some f := ⟨_, List.getElem?_eq_getElem omT⟩; have hst := lookL_step (n := n) hf; clear mkI; refine ⟨j, by omega, by omega, ?_⟩) | (guard_hyp hf : fs[j]? = some f; refine onS_in (v := iv f.1) (by show (fs.map fNv)[0 + j * 1 + 0]? = _; rw [Nat.zero_add, Nat.mul_one, Nat.add_zero, List.getElem?_map, hf]; rfl) ?_) | (guard_target =~ CallOb _ 63 _ _ _ _; refine call_q (rread_c S D (up_ok hD omT) logN (1 + ((j : Nat) : Int))) [(0, some 1)] cvLogActs4 rfT rfT rfT (fun v h1 n1 hp => ?_); obtain ⟨⟨sr, er⟩, D1, S1, hr, rfl, rfl, rfl⟩ := hp; (try (dsimp only [Nat.reduceAdd, bC, bL]))) | (guard_target =~ ∃ (_ : Nat), _ ∧ _; have h256 := read_256 (up_ok hD omT) hr ‹er = 0›; refine ⟨232, by omega, by omega, ?_⟩) | (with_reducible first | refine chk_in (Nat.ble_eq_true_of_le omT) ?_ | (refine ifB_in ?_ ?_ <;> intro hb <;> (try simp only [bN1, bN2, bN3, bN4, bN5, bN6, bN7, bN8, bN9, bN0] at hb) <;> (try (exfalso; omega))) | refine ⟨_, w64b _, ?_⟩ | refine ⟨_, w64 omT omT, ?_⟩ | refine ⟨_, wu64 omT omT, ?_⟩ | refine ⟨_, wu8 omT omT, ?_⟩ | refine ⟨_, w64 szT szT, ?_⟩ | refine ⟨_, rfl, ?_⟩ | refine ⟨rfl, ?_⟩) | intro cap | (with_reducible refine ⟨trivial, ?_⟩) | (guard_target =~ (planChk _ _ = true) ∧ _; refine ⟨by kernel_rfl, ?_⟩) | (guard_target =~ (_ ∧ _) ∧ _; refine ⟨by ((repeat (first | exact trivial | refine ⟨rfl, ?_⟩)); (first | done | fail)), ?_⟩) | refine ⟨by omega, ?_⟩ | refine ⟨szT, ?_⟩ | refine ⟨0, rfl, ?_⟩ | refine ⟨1, rfl, ?_⟩ | refine ⟨2, rfl, ?_⟩ | refine ⟨3, rfl, ?_⟩ | refine ⟨4, rfl, ?_⟩ | refine ⟨5, rfl, ?_⟩ | (refine cell_at1 (by assumption) ?_) | (refine cell_in1 omT (fun x hx => ?_)) | fail)) <;> (try (conv => whnf))
 all_goals first
  | (exfalso; omega)
  | (guard_hyp hb : ¬ f.1 = n; (refine Again.go ((⟨j⟩ : GI)) ?_ (by (try dsimp only); omega) [(0, some 0), (1, some 1), (2, some 2), (3, some 3)] (Sub.q cvLogActs4 (by rfl) (by rfl))); exact ⟨by dsimp only; omega, by rw [h2, hst, if_neg (fun e => hb e.symm)]⟩)
  | (guard_hyp hb : ¬ er = 0; have hi : lookI (lastM fs) n = some ((j : Nat) : Int) := (by rw [h2, hst, if_pos (by omega)]); (refine Ends.go (((⟨#[]⟩, false, er), D1, S1)) ?_ [(0, some 0), (1, some 1), (2, some 2), (3, some 3)] (Fit.q cvLogActs4 (by rfl) (by rfl))); exact (getL_err hi hr hb).symm)
  | (guard_hyp hr : ((sr, er), D1) = _; have hi : lookI (lastM fs) n = some ((j : Nat) : Int) := (by rw [h2, hst, if_pos (by omega)]); (refine Ends.go (((sr.extract 0 232, true, 0), D1, S1)) ?_ [(0, some 0), (1, some 1), (2, some 2), (3, some 3)] (Fit.q cvLogActs4 (by rfl) (by rfl))); exact (getL_ok hi hr ‹er = 0›).symm)
  | (obtain rfl : j = 0 := (by omega); (refine Ends.go (((⟨#[]⟩, false, 0), D, S)) ?_ [(0, some 0), (1, some 1), (2, some 2), (3, some 3)] (Fit.q cvLogActs4 (by rfl) (by rfl))); exact (getL_none (by rw [h2]; exact lookL_none fs n)).symm)
  | trace_state
end Go.Proofs.YtcojbjakopkfbaaGreat
namespace Go.Proofs.YtcojbjakopkfbaaGreat
open Go.RowKit
set_option linter.unusedSimpArgs false
set_option linter.unusedVariables false
theorem putI_keys (n v : Int) : ∀ M : List (Int × Int), (putI M n v).map (fun q => q.1) = if n ∈ M.map (fun q => q.1) then M.map (fun q => q.1) else M.map (fun q => q.1) ++ [n]
 | [] => rfl
 | q :: r => by
  have ih := putI_keys n v r
  unfold putI
  by_cases h : q.1 = n
  · rw [if_pos h, if_pos (by rw [List.map_cons, h]; exact List.mem_cons_self)]
    rw [List.map_cons, List.map_cons, h]
  · rw [if_neg h, List.map_cons, ih, List.map_cons]
    by_cases h2 : n ∈ r.map fun q => q.1
    · rw [if_pos h2, if_pos (List.mem_cons_of_mem _ h2)]
    · rw [if_neg h2, if_neg (fun hh => by
       rcases List.mem_cons.1 hh with e | e
       · exact h e.symm
       · exact h2 e)]
      rfl
theorem lastM_keys (fs : List Fr) : ((lastM fs).map fun q => q.1).Nodup ∧ ∀ a, a ∈ ((lastM fs).map fun q => q.1) ↔ ∃ f ∈ fs, f.1 = a := by
 refine snoc_ind (P := fun fs => ((lastM fs).map fun q => q.1).Nodup ∧ ∀ a, a ∈ ((lastM fs).map fun q => q.1) ↔ ∃ f ∈ fs, f.1 = a) ⟨List.nodup_nil, fun a => ⟨fun h => (by cases h), fun ⟨f, hf, _⟩ => (by cases hf)⟩⟩ (fun l f ih => ?_) fs
 obtain ⟨h1, h2⟩ := ih
 rw [lastM_snoc, putI_keys]
 by_cases hm : f.1 ∈ (lastM l).map fun q => q.1
 · rw [if_pos hm]
   refine ⟨h1, fun a => ⟨fun h => ?_, fun ⟨g, hg, e⟩ => ?_⟩⟩
   · obtain ⟨g, hg, e⟩ := (h2 a).1 h
     exact ⟨g, List.mem_append_left _ hg, e⟩
   · rcases List.mem_append.1 hg with hg | hg
     · exact (h2 a).2 ⟨g, hg, e⟩
     · obtain rfl := List.mem_singleton.1 hg
       rw [← e]; exact hm
 · rw [if_neg hm]
   refine ⟨?_, fun a => ⟨fun h => ?_, fun ⟨g, hg, e⟩ => ?_⟩⟩
   · rw [List.nodup_append]
     exact ⟨h1, by simp, fun a ha b hb e => by rw [List.mem_singleton.1 hb] at e; rw [e] at ha; exact hm ha⟩
   · rcases List.mem_append.1 h with h | h
     · obtain ⟨g, hg, e⟩ := (h2 a).1 h
       exact ⟨g, List.mem_append_left _ hg, e⟩
     · exact ⟨f, List.mem_append_right _ List.mem_cons_self, (List.mem_singleton.1 h).symm⟩
   · rcases List.mem_append.1 hg with hg | hg
     · exact List.mem_append_left _ ((h2 a).2 ⟨g, hg, e⟩)
     · obtain rfl := List.mem_singleton.1 hg
       exact List.mem_append_right _ (by rw [e]; exact List.mem_cons_self)
theorem pgsN_mem {m : Nat} {fs : List Fr} {a : Int} : a ∈ pgsN m fs ↔ (0 ≤ a ∧ a < (m : Nat)) ∧ ∃ f ∈ fs, f.1 = a := by
 unfold pgsN
 rw [List.mem_filter, List.mem_map, List.any_eq_true]
 constructor
 · rintro ⟨⟨k, hk, rfl⟩, f, hf, e⟩
   have := List.mem_range.1 hk
   exact ⟨⟨by omega, by omega⟩, f, hf, by simpa using e⟩
 · rintro ⟨⟨h1, h2⟩, f, hf, e⟩
   exact ⟨⟨a.toNat, List.mem_range.2 (by omega), by omega⟩, f, hf, by simpa using e⟩
theorem pgsN_lt (m : Nat) (fs : List Fr) : (pgsN m fs).Pairwise (· < ·) := by
 unfold pgsN
 refine List.Pairwise.filter _ ?_
 rw [List.pairwise_map]
 exact List.pairwise_lt_range.imp fun h => by omega
theorem pages_same {fs : List Fr} (h : ∀ f ∈ fs, 0 ≤ f.1 ∧ f.1 < 4096) : sortK (lastM fs) = pgsN 4096 fs := by
 obtain ⟨h1, h2⟩ := lastM_keys fs
 have hn : (sortK (lastM fs)).Nodup := by
  unfold sortK
  exact (List.mergeSort_perm _ _).nodup_iff.2 h1
 have hp : (sortK (lastM fs)).Perm (pgsN 4096 fs) := by
  refine (List.perm_ext_iff_of_nodup hn ((pgsN_lt 4096 fs).imp fun h => by omega)).2 fun a => ?_
  rw [sortK_mem, h2, pgsN_mem]
  constructor
  · rintro ⟨f, hf, rfl⟩
    have := h f hf
    exact ⟨⟨this.1, by omega⟩, f, hf, rfl⟩
  · exact fun h => h.2
 exact hp.eq_of_pairwise (le := (· ≤ ·)) (fun a b _ _ h1 h2 => Int.le_antisymm h1 h2) (sortK_le _) ((pgsN_lt 4096 fs).imp fun h => Int.le_of_lt h)
theorem pgs_app {fs : List Fr} {m : Nat} {f : Fr} {x : List Value} (hf : f ∈ fs) (h : f.1 = (m : Nat)) (hx : x = [iv (m : Nat)]) : (pgsN m fs).map iv ++ x = (pgsN (m + 1) fs).map iv := by rw [hx, pgsN_yes hf h, List.map_append]; rfl
theorem iv_flat' {l : List Int} : ∀ v ∈ l.map iv, flat1 v = true := fun v hv => by obtain ⟨x, _, rfl⟩ := List.mem_map.1 hv; rfl
structure PO where
 m : Nat
 c : Nat
structure PI where
 i : Nat
attribute [local irreducible] numOf fixedL bytesOf strOf strEq strLt sfrom closeS closeE writeD sizeD syncD cutD dropD readD topS sumS sumL ssL rightR lastM readL openL trimR addL kindL lsyncL getL lbackL lendL lookI pgsN sortK
theorem cvLogActs6 {p : Prop} (h : p := by have nw := True.intro; (repeat' (first | exact True.intro | (with_reducible exact rfl) | (with_reducible exact AbsLe.refl) | (guard_target =~ @Eq Nat _ _; first | exact rfl | omega) | (guard_target =~ List.map _ _ = []; exact rfl) | (first | (guard_target =~ @Eq Nat _ _; (try dsimp only); omega) | (guard_target =~ List.map _ _ = []; exact rfl) | exact covL_of (pgs_app hfm hfe rfl) iv_flat' | exact covL_of (congrArg (List.map iv) hpq) iv_flat' | exact covL_of hp0 iv_flat' | exact covL_of rfl fn_flat | exact covL_of rfl uv_flat | exact covL_of rfl iv_flat' | first | exact covL_still rfl hvs | exact covL_still rfl (still_map (fun _ => rfl) _) | exact covL_still rfl (still_map ro_still _) | (apply covL_set <;> (try clear nw) <;> have nw := True.intro) | exact congrArg (Value.int _) (by (try dsimp only); omega)) | (exact congrArg (Value.int _) (by omega)) | (exact covL_flat (flat_map (fun _ => rfl) _)) | (exact covL_flat flat_nil) | (refine covP_all ?_; (try clear nw); have nw := True.intro) | (refine covL_each ?_; (try clear nw); have nw := True.intro) | (refine ⟨?_, ?_⟩ <;> (try clear nw) <;> have nw := True.intro) | (guard_hyp nw : True; ((conv => whnf) <;> clear nw)))); (first | done | fail)) : p := h
theorem rnLogActs7 {p : Prop} (h : p := by refine ⟨?_, ?_, ?_⟩; (first | apply rR_tuple | apply rR_one rfl | exact rfl); all_goals (repeat' (first | (with_reducible (first | exact relH_nil | apply rn_lst | apply rn_own | apply rn_mp | apply rn_row | apply rn_abs | exact wo_nil)) | apply wo_keep rfl | apply wo_drop rfl | exact relH_nil | exact r1_flat rfl | exact r0_flat rfl | exact rl_nil | exact wo_nil | exact bk_old rfl | exact bk_new rfl | exact bk_nil rfl | apply rl_cons | (first | exact relL_flat fn_flat | exact relL_flat uv_flat | exact relL_flat iv_flat' | first | exact relL_still hvs | exact relL_still (still_map (fun _ => rfl) _) | exact relL_still (still_map ro_still _) | exact relL_flat (flat_map (fun _ => rfl) _) | apply relL_set) | exact relL_flat (flat_map (fun _ => rfl) _) | exact relL_flat flat_nil | apply relL_to | apply rn_lst | apply rn_own | apply rn_mp | apply rn_row | apply relH_view rfl | apply relH_lview rfl | apply relH_fact rfl | exact r1_rig | exact r0_rig | exact r1_rigs | exact r0_rigs | apply wo_keep rfl | apply wo_drop rfl | apply r1_agg | apply rn_ptr | apply rn_slice | apply rn_slice0 | apply rn_iface | apply rn_map | apply rn_ifacem | apply r0_map | apply r0_ifacem | apply r0_ptr | apply r0_slice | apply r0_slice0 | apply r0_iface)); (first | done | fail)) : p := h
set_option maxRecDepth 100000 in
set_option maxHeartbeats 1000000 in
theorem rlpages_c (fs : List Fr) (ss : List Int) (ca cb : Nat) (S : Nat → Prop) (D : DM) (hl : fs.length ≤ 100000) :
 CallOb Tryz.prog 23 [ptr 0] (rlX fs.length ss.length fs ss ca cb S D) 4 (fun v h m => ∃ c : Nat, (pgsN 4096 fs).length ≤ c ∧ v = mslice 50 (pgsN 4096 fs).length c ∧ h = (50, .lst 3 1 c ((pgsN 4096 fs).map iv)) :: rlX fs.length ss.length fs ss ca cb S D ∧ m = 100) := by
 refine call_spec tabOk mixed Tryz.call23 Tryz.func23 rfl [] (fun c : Nat => (pgsN 4096 fs).length ≤ c) (fun c => mslice 50 (pgsN 4096 fs).length c) (fun c => (50, .lst 3 1 c ((pgsN 4096 fs).map iv)) :: rlX fs.length ss.length fs ss ca cb S D) (fun _ => 100) ?_ ?_
 · exact (Nat.le_of_ble_eq_true rfl)
 have hp0 : ([] : List Value) = (pgsN 0 fs).map iv := by rw [pgsN_0]; rfl
 have hp1 : (pgsN 0 fs).length = 0 := by rw [pgsN_0]; rfl
 (repeat' ((try (conv => whnf)); first | (guard_target =~ ∃ (_ : Value), ∃ (_ : HP), ∃ (_ : HP), _; refine ⟨_, _, _, rnLogActs7, ?_⟩; (try (dsimp only [Nat.reduceAdd, bC, bL]))) | (guard_target =~ LoopOb _ _ _ _ _ _ _ _; first | (guard_hyp mkO : 1 = 1; fail) | refine loop_rule tabOk mixed [] 5 (fun k : PO => [(0, ptr 0), (3, mslice 4 (pgsN k.m fs).length k.c), (4, iv ((k.m : Nat) : Int))]) (fun k => [(0, .own 109 [ptr 1, mslice 2 fs.length ca, mslice 3 ss.length cb]), (1, refI S D), (2, .lst 3 1 ca (fs.map fNv)), (3, .lst 24 1 cb (ss.map uV)), (4, .lst 3 1 k.c ((pgsN k.m fs).map iv))]) (fun k => 4096 - k.m) (fun k => k.m ≤ 4096 ∧ (pgsN k.m fs).length ≤ k.c) ⟨0, 0⟩ ⟨Nat.zero_le _, Nat.le_of_eq (congrArg List.length (pgsN_0 fs))⟩ ⟨[(0, some 0), (1, some 1), (2, some 2), (3, some 3), (4, some 4)], Sub.q cvLogActs6 (by rfl) (by rfl)⟩ (fun k hk => ?_)) | (guard_target =~ LoopOb _ _ _ _ _ _ _ _; guard_hyp mkO : 1 = 1; refine loop_rule tabOk mixed [] 5 (fun k : PI => [(0, ptr 0), (3, mslice 4 (pgsN m fs).length cp), (4, iv ((m : Nat) : Int)), (5, iv ((k.i : Nat) : Int))]) (fun k => [(0, .own 109 [ptr 1, mslice 2 fs.length ca, mslice 3 ss.length cb]), (1, refI S D), (2, .lst 3 1 ca (fs.map fNv)), (3, .lst 24 1 cb (ss.map uV)), (4, .lst 3 1 cp ((pgsN m fs).map iv))]) (fun k => fs.length - k.i) (fun k => k.i ≤ fs.length ∧ ∀ (j : Nat) (f : Fr), j < k.i → fs[j]? = some f → ¬ f.1 = ((m : Nat) : Int)) ⟨0⟩ ⟨Nat.zero_le _, fun j f h => absurd h (Nat.not_lt_zero _)⟩ ⟨[(0, some 0), (1, some 1), (2, some 2), (3, some 3), (4, some 4)], Sub.q cvLogActs6 (by rfl) (by rfl)⟩ (fun k hk => ?_)) | (guard_hyp k : PO; rcases k with ⟨m, cp⟩; obtain ⟨h1, h2⟩ := hk; dsimp only at h1 h2 ⊢; have hpl := pgsN_len m fs; have mkO : 1 = 1 := rfl) | (guard_hyp k : PI; rcases k with ⟨i⟩; obtain ⟨h3, h4⟩ := hk; dsimp only at h3 h4 ⊢; have mkI : 1 = 1 := rfl) | (guard_target =~ ∃ (k : Nat), (k : Int) = ((i : Nat) : Int) ∧ _; guard_hyp mkI : 1 = 1; obtain ⟨f, hf⟩ : ∃ f, fs[i]? = some f := ⟨_, List.getElem?_eq_getElem omT⟩; have hfm := List.mem_of_getElem? hf; clear mkI; refine ⟨i, rfl, by omega, ?_⟩) | (guard_hyp hf : fs[i]? = some f; refine onS_in (v := iv f.1) (by show (fs.map fNv)[0 + i * 1 + 0]? = _; rw [Nat.zero_add, Nat.mul_one, Nat.add_zero, List.getElem?_map, hf]; rfl) ?_) | (refine ⟨(by rw [List.length_map, Nat.mul_one]), ?_⟩) | (with_reducible first | refine chk_in (Nat.ble_eq_true_of_le omT) ?_ | (refine ifB_in ?_ ?_ <;> intro hb <;> (try simp only [bN1, bN2, bN3, bN4, bN5, bN6, bN7, bN8, bN9, bN0] at hb) <;> (try (exfalso; omega))) | refine ⟨_, w64b _, ?_⟩ | refine ⟨_, w64 omT omT, ?_⟩ | refine ⟨_, wu64 omT omT, ?_⟩ | refine ⟨_, wu8 omT omT, ?_⟩ | refine ⟨_, w64 szT szT, ?_⟩ | refine ⟨_, rfl, ?_⟩ | refine ⟨rfl, ?_⟩) | intro cap | (with_reducible refine ⟨trivial, ?_⟩) | (guard_target =~ (planChk _ _ = true) ∧ _; refine ⟨by kernel_rfl, ?_⟩) | (guard_target =~ (_ ∧ _) ∧ _; refine ⟨by ((repeat (first | exact trivial | refine ⟨rfl, ?_⟩)); (first | done | fail)), ?_⟩) | refine ⟨by omega, ?_⟩ | refine ⟨szT, ?_⟩ | refine ⟨0, rfl, ?_⟩ | refine ⟨1, rfl, ?_⟩ | refine ⟨2, rfl, ?_⟩ | refine ⟨3, rfl, ?_⟩ | refine ⟨4, rfl, ?_⟩ | refine ⟨5, rfl, ?_⟩ | (refine cell_at1 (by assumption) ?_) | (refine cell_in1 omT (fun x hx => ?_)) | fail)) <;> (try (conv => whnf))
 all_goals first
  | (exfalso; omega)
  | (guard_hyp hf : fs[i]? = some f; first
   | (have hfe : f.1 = ((m : Nat) : Int) := (by omega); have e1 : (pgsN (m + 1) fs).length = (pgsN m fs).length + 1 := (by rw [pgsN_yes hfm hfe, List.length_append]; rfl); (refine Again.go ((⟨m + 1, _⟩ : PO)) ?_ (by (try dsimp only); omega) [(0, some 0), (1, some 1), (2, some 2), (3, some 3), (4, some 6)] (Sub.q cvLogActs6 (by rfl) (by rfl))); exact ⟨by dsimp only; omega, by dsimp only; omega⟩)
   | ((refine Again.go ((⟨i + 1⟩ : PI)) ?_ (by (try dsimp only); omega) [(0, some 0), (1, some 1), (2, some 2), (3, some 3), (4, some 4)] (Sub.q cvLogActs6 (by rfl) (by rfl))); exact ⟨by dsimp only; omega, fun j g hj hg => by
    rcases Nat.lt_or_ge j i with h | h
    · exact h4 j g h hg
    · obtain rfl : j = i := by dsimp only at hj; omega
      rw [hf] at hg; cases hg; assumption⟩))
  | (guard_hyp h4 : ∀ _, _; obtain rfl : i = fs.length := (by omega); have hpq : pgsN m fs = pgsN (m + 1) fs := (pgsN_no fun f hf => by obtain ⟨j, hj⟩ := List.mem_iff_getElem?.1 hf; exact h4 j f (List.getElem?_eq_some_iff.1 hj).1 hj).symm; have e1 := congrArg List.length hpq; (refine Again.go ((⟨m + 1, cp⟩ : PO)) ?_ (by (try dsimp only); omega) [(0, some 0), (1, some 1), (2, some 2), (3, some 3), (4, some 4)] (Sub.q cvLogActs6 (by rfl) (by rfl))); exact ⟨by dsimp only; omega, by dsimp only; omega⟩)
  | (have hpq : pgsN m fs = pgsN 4096 fs := (by
   rcases Nat.lt_or_ge m 4096 with h | h
   · have : fs = [] := List.eq_nil_of_length_eq_zero (by omega)
     rw [this, pgsN_nil, pgsN_nil]
   · rw [show m = 4096 by omega]); have e1 := congrArg List.length hpq; (refine Ends.go (cp) ?_ [(0, some 0), (1, some 1), (2, some 2), (3, some 3), (50, some 4)] (Fit.q cvLogActs6 (by rfl) (by rfl))); omega)
  | trace_state
end Go.Proofs.YtcojbjakopkfbaaGreat
namespace Go.Proofs.YtcojbjakopkfbaaGreat
open Go.RowKit
set_option linter.unusedSimpArgs false
set_option linter.unusedVariables false
attribute [local irreducible] bytesOf strOf strEq strLt sfrom begS pgS newD armD onD
theorem rnLogActs9 {p : Prop} (h : p := by refine ⟨?_, ?_, ?_⟩; (first | apply rR_tuple | apply rR_one rfl | exact rfl); all_goals (repeat' (first | (with_reducible (first | exact relH_nil | apply rn_lst | apply rn_own | apply rn_mp | apply rn_row | apply rn_abs | exact wo_nil)) | apply wo_keep rfl | apply wo_drop rfl | exact relH_nil | exact r1_flat rfl | exact r0_flat rfl | exact rl_nil | exact wo_nil | exact bk_old rfl | exact bk_new rfl | exact bk_nil rfl | apply rl_cons | (first | exact relL_still hvs | exact relL_still (still_map (fun _ => rfl) _) | exact relL_still (still_map ro_still _) | exact relL_flat (flat_map (fun _ => rfl) _) | apply relL_set) | exact relL_flat (flat_map (fun _ => rfl) _) | exact relL_flat flat_nil | apply relL_to | apply rn_lst | apply rn_own | apply rn_mp | apply rn_row | apply relH_view rfl | apply relH_lview rfl | apply relH_fact rfl | exact r1_rig | exact r0_rig | exact r1_rigs | exact r0_rigs | apply wo_keep rfl | apply wo_drop rfl | apply r1_agg | apply rn_ptr | apply rn_slice | apply rn_slice0 | apply rn_iface | apply rn_map | apply rn_ifacem | apply r0_map | apply r0_ifacem | apply r0_ptr | apply r0_slice | apply r0_slice0 | apply r0_iface)); (first | done | fail)) : p := h
theorem cvLogActs10 {p : Prop} (h : p := by have nw := True.intro; (repeat' (first | exact True.intro | (with_reducible exact rfl) | (with_reducible exact AbsLe.refl) | (guard_target =~ @Eq Nat _ _; first | exact rfl | omega) | (guard_target =~ List.map _ _ = []; exact rfl) | (first | exact covL_of rfl (flat_map (fun _ => rfl) _) | first | exact covL_still rfl hvs | exact covL_still rfl (still_map (fun _ => rfl) _) | exact covL_still rfl (still_map ro_still _) | (apply covL_set <;> (try clear nw) <;> have nw := True.intro) | exact congrArg (Value.int _) (by (try dsimp only); omega)) | (exact congrArg (Value.int _) (by omega)) | (exact covL_flat (flat_map (fun _ => rfl) _)) | (exact covL_flat flat_nil) | (refine covP_all ?_; (try clear nw); have nw := True.intro) | (refine covL_each ?_; (try clear nw); have nw := True.intro) | (refine ⟨?_, ?_⟩ <;> (try clear nw) <;> have nw := True.intro) | (guard_hyp nw : True; ((conv => whnf) <;> clear nw)))); (first | done | fail)) : p := h
set_option maxRecDepth 100000 in
theorem same_c (a : List Int) (ca cb : Nat) (hl : a.length ≤ 4611686018427387904) :
 CallOb Tryz.prog 21 [mslice 0 a.length ca, mslice 1 a.length cb] [(0, .lview (a.map iv)), (1, .lview (a.map iv))] 2 (fun v h m => ∃ z : Bool, z = true ∧ v = .bool z ∧ h = [] ∧ m = 2) := by
 refine call_spec tabOk mixed Tryz.call21 Tryz.func21 rfl [(6, [(0, true), (1, true), (2, true), (3, true), (4, true), (5, true), (6, true), (7, true), (8, true)])] (fun z : Bool => z = true) (fun z => .bool z) (fun _ => []) (fun _ => 2) ?_ ?_
 · exact (Nat.le_of_ble_eq_true rfl)
 (repeat' ((try (conv => whnf)); first | (guard_target =~ ∃ (_ : Value), ∃ (_ : HP), ∃ (_ : HP), _; refine ⟨_, _, _, rnLogActs9, ?_⟩; (try (dsimp only [Nat.reduceAdd, bC, bL]))) | (guard_target =~ LoopOb _ _ _ _ _ _ _ _; refine loop_rule tabOk mixed [(6, [(0, true), (1, true), (2, true), (3, true), (4, true), (5, true), (6, true), (7, true), (8, true)])] 2 (fun k => [(0, mslice 0 a.length ca), (1, mslice 1 a.length cb), (5, iv (k : Nat))]) (fun k => [(0, .lview (a.map iv)), (1, .lview (a.map iv))]) (fun k => a.length - k) (fun k => k ≤ a.length) (0) (Nat.zero_le _) ⟨[], Sub.q cvLogActs10 (by rfl) (by rfl)⟩ (fun k hk => ?_)) | (guard_target =~ ∃ (_ : Nat), _ ∧ _; refine ⟨k, by omega, by omega, ?_⟩) | (obtain ⟨s, hs⟩ : ∃ s, a[k]? = some s := ⟨_, List.getElem?_eq_getElem (show k < a.length by omega)⟩; refine cell_at1 hs ?_) | (with_reducible first | refine chk_in (Nat.ble_eq_true_of_le omT) ?_ | (refine ifB_in ?_ ?_ <;> intro hb <;> (try simp only [bN1, bN2, bN3, bN4, bN5, bN6, bN7, bN8, bN9, bN0] at hb) <;> (try (exfalso; omega))) | refine ⟨_, w64b _, ?_⟩ | refine ⟨_, w64 omT omT, ?_⟩ | refine ⟨_, wu64 omT omT, ?_⟩ | refine ⟨_, wu8 omT omT, ?_⟩ | refine ⟨_, w64 szT szT, ?_⟩ | refine ⟨_, rfl, ?_⟩ | refine ⟨rfl, ?_⟩) | intro cap | (with_reducible refine ⟨trivial, ?_⟩) | (guard_target =~ (planChk _ _ = true) ∧ _; refine ⟨by kernel_rfl, ?_⟩) | (guard_target =~ (_ ∧ _) ∧ _; refine ⟨by ((repeat (first | exact trivial | refine ⟨rfl, ?_⟩)); (first | done | fail)), ?_⟩) | refine ⟨by omega, ?_⟩ | refine ⟨szT, ?_⟩ | refine ⟨0, rfl, ?_⟩ | refine ⟨1, rfl, ?_⟩ | refine ⟨2, rfl, ?_⟩ | refine ⟨3, rfl, ?_⟩ | refine ⟨4, rfl, ?_⟩ | refine ⟨5, rfl, ?_⟩ | (refine cell_at1 (by assumption) ?_) | (refine cell_in1 omT (fun x hx => ?_)) | fail)) <;> (try (conv => whnf))
 all_goals first
  | (exfalso; exact hb trivial)
  | ((refine Again.go ((k + 1 : Nat)) ?_ (by (try dsimp only); omega) [] (Sub.q cvLogActs10 (by rfl) (by rfl))); omega)
  | ((refine Ends.go (true) ?_ [] (Fit.q cvLogActs10 (by rfl) (by rfl))); rfl)
  | (exfalso; simp_all)
  | trace_state
def FrOk (f : Fr) : Prop := U64 f.2.1 ∧ 0 ≤ f.1 ∧ f.1 < 4096
theorem right_frok {c : Int} {s : ByteArray} {f : Fr} (h : rightR c s = some f) : FrOk f := by
 unfold rightR at h
 split at h
 · rename_i h2
   cases h
   exact ⟨sumS_u s, Int.natCast_nonneg _, by have := h2.2.2.1; omega⟩
 · cases h
theorem readL_frok : ∀ (m i : Nat) (fs : List Fr) (D : DM), (∀ f ∈ fs, FrOk f) → ∀ f ∈ (readL m i fs D).1.2.2, FrOk f
 | 0, i, fs, D, h => by unfold readL; exact h
 | m + 1, i, fs, D, h => by
  unfold readL
  dsimp only
  split
  · exact h
  · split
    · exact h
    · split
      · split
        · exact readL_frok m 1 fs _ h
        · exact h
      · cases hr : rightR (sumL fs) (readD D logN (i : Nat)).1.1 with
        | none => exact h
        | some f => exact readL_frok m (i + 1) (fs ++ [f]) _ (fun g hg => by
         rcases List.mem_append.1 hg with hg | hg
         · exact h g hg
         · rw [List.mem_singleton.1 hg]; exact right_frok hr)
theorem trimR_mem : ∀ {l : List Fr} {f : Fr}, f ∈ trimR l → f ∈ l
 | [], f, h => h
 | g :: l, f, h => by
  unfold trimR at h
  cases ht : trimR l with
  | nil =>
   rw [ht] at h
   cases hg : g.2.2 with
   | false => rw [hg] at h; cases h
   | true => rw [hg] at h; rw [List.mem_singleton.1 h]; exact List.mem_cons_self
  | cons a b =>
   rw [ht] at h
   rcases List.mem_cons.1 h with rfl | h
   · exact List.mem_cons_self
   · exact List.mem_cons_of_mem _ (trimR_mem (by rw [ht]; exact h))
theorem trimR_le : ∀ (l : List Fr), (trimR l).length ≤ l.length
 | [] => Nat.le_refl _
 | g :: l => by
  have ih := trimR_le l
  unfold trimR
  cases ht : trimR l with
  | nil =>
   cases hg : g.2.2 with
   | false => exact Nat.zero_le _
   | true => exact Nat.succ_le_succ (Nat.zero_le _)
  | cons a b => rw [ht] at ih; exact Nat.succ_le_succ ih
theorem openL_fr (D : DM) : (∀ f ∈ (openL D).1.2, FrOk f) ∧ (openL D).1.2.length ≤ (sizeD D logN).toNat := by
 have h1 := readL_frok (sizeD D logN).toNat 0 [] D (fun f h => by cases h)
 have h2 := readL_few (sizeD D logN).toNat 0 (fs := []) (D := D)
 unfold openL
 split
 · exact ⟨fun f h => (by cases h), Nat.zero_le _⟩
 · generalize readL (sizeD D logN).toNat 0 [] D = r at h1 h2 ⊢
   have h3 : ∀ f ∈ trimR r.1.2.2, FrOk f := fun f h => h1 f (trimR_mem h)
   have h4 : (trimR r.1.2.2).length ≤ (sizeD D logN).toNat := Nat.le_trans (trimR_le _) (by rw [List.length_nil, Nat.zero_add] at h2; exact h2)
   unfold openR
   split
   · exact ⟨fun f h => (by cases h), Nat.zero_le _⟩
   · split
     · exact ⟨fun f h => (by cases h), Nat.zero_le _⟩
     · split
       · split
         · exact ⟨fun f h => (by cases h), Nat.zero_le _⟩
         · exact ⟨h3, h4⟩
       · exact ⟨h3, h4⟩
structure LXR (N : Int) (c : Nat) (fs : List Fr) (ss : List Int) (cap ca cb : Nat) (D : DM) : Prop where
 ok : D.OkN N
 cap : fs.length ≤ cap
 ca : fs.length ≤ ca
 cb : ss.length ≤ cb
 len : fs.length ≤ 16384 + c
 fr : ∀ f ∈ fs, FrOk f
section
variable {N : Int} {c : Nat} {fs fs' : List Fr} {ss ss' : List Int} {cap ca cb cap' ca' cb' : Nat} {D D' : DM}
theorem LXR.pages (h : LXR N c fs ss cap ca cb D) : sortK (lastM fs) = pgsN 4096 fs ∧ (lastM fs).length = (pgsN 4096 fs).length ∧ (∀ q ∈ lastM fs, 0 ≤ q.1 ∧ q.1 < 4294967296) ∧ (lastM fs).length ≤ fs.length := by
 have h1 := pages_same (fs := fs) fun f hf => (h.fr f hf).2
 refine ⟨h1, by rw [← h1, sortK_length], fun q hq => ?_, lastM_len fs⟩
 obtain ⟨f, hf, e⟩ := ((lastM_keys fs).2 q.1).1 (List.mem_map.2 ⟨q, hq, rfl⟩)
 have := (h.fr f hf).2
 rw [e] at this
 omega
end
end Go.Proofs.YtcojbjakopkfbaaGreat
namespace Go.Proofs.YtcojbjakopkfbaaGreat
open Go.RowKit
set_option linter.unusedSimpArgs false
set_option linter.unusedVariables false
structure LXT (N : Int) (c : Nat) (fs : List Fr) (ss : List Int) (cap ca cb : Nat) (S T : Nat → Prop) (D : DM) : Prop where
 r : LXR N c fs ss cap ca cb D
section
variable {N : Int} {c : Nat} {fs : List Fr} {ss : List Int} {cap ca cb : Nat} {S T : Nat → Prop} {D : DM}
theorem pagesM (h : LXT N c fs ss cap ca cb S T D) (hc : c ≤ 100) : CallOb Tryz.prog 22 [ptr 0] (lgH fs cap S D) 4 (fun v hh m => ∃ k : Nat, (pgsN 4096 fs).length ≤ k ∧ v = mslice 50 (pgsN 4096 fs).length k ∧ hh = (50, .lst 3 1 k ((pgsN 4096 fs).map iv)) :: lgH fs cap S D ∧ m = 100) := by
 obtain ⟨h1, h2, h3, h4⟩ := h.r.pages
 have := h.r.len
 refine (lpages_c fs cap S D h3 (by omega)).mono fun v hh m ⟨k, q1, q2, q3, q4⟩ => ?_
 rw [h2] at q1 q2
 rw [h1] at q3
 exact ⟨k, q1, q2, q3, q4⟩
theorem pagesR (h : LXT N c fs ss cap ca cb S T D) (hc : c ≤ 100) : CallOb Tryz.prog 23 [ptr 0] (rlX fs.length ss.length fs ss ca cb T D) 4 (fun v hh m => ∃ k : Nat, (pgsN 4096 fs).length ≤ k ∧ v = mslice 50 (pgsN 4096 fs).length k ∧ hh = (50, .lst 3 1 k ((pgsN 4096 fs).map iv)) :: rlX fs.length ss.length fs ss ca cb T D ∧ m = 100) :=
 rlpages_c fs ss ca cb T D (by have := h.r.len; omega)
end
theorem openM (S : Nat → Prop) (D : DM) {N : Int} (hD : D.OkN N) (hN : N ≤ 800000000) : CallOb Tryz.prog 15 [ptr 0] [(0, diskI S D)] 1 (fun v h m =>
 (∃ (x : LX) (e : Int), (e = 0 ∧ ((0, x.fs), x.D) = openL D ∧ x.fs.length ≤ x.cap) ∧ v = .tuple #[ptr 10, iv e] ∧ h = lgO x.fs.length x.fs x.cap x.S x.D ∧ m = 800) ∨ (∃ (e : Int) (D' : DM) (S' : Nat → Prop), (e ≠ 0 ∧ ((e, []), D') = openL D) ∧ v = .tuple #[.pointer none, iv e] ∧ h = [(0, diskI S' D')] ∧ m = 800)) :=
 (lopen_e S D hD hN).mono fun v h m ⟨x, hr, h1, h2, h3⟩ => by
  cases x with
  | inl x =>
   obtain ⟨n, fs, cap, S', D'⟩ := x
   obtain ⟨q1, q2, q3⟩ := hr
   have q3 : n = fs.length := q3
   subst q3
   exact .inl ⟨⟨fs.length, fs, cap, S', D'⟩, 0, ⟨rfl, q1, q2⟩, h1, h2, h3⟩
  | inr x => exact .inr ⟨x.1, x.2.1, x.2.2, ⟨hr.2, hr.1⟩, h1, h2, h3⟩
theorem openRf (S : Nat → Prop) (D : DM) {N : Int} (hD : D.OkN N) (hN : N ≤ 800000000) : CallOb Tryz.prog 16 [ptr 0] [(0, refI S D)] 1 (fun v h m =>
 (∃ (x : RX) (e : Int), (e = 0 ∧ ((0, x.fs), x.D) = openL D ∧ x.Ok) ∧ v = .tuple #[ptr 10, iv e] ∧ h = rlO x.fs.length x.ss.length x.fs x.ss x.ca x.cb x.S x.D ∧ m = 1500) ∨ (∃ (e : Int) (D' : DM) (S' : Nat → Prop), (e ≠ 0 ∧ ((e, []), D') = openL D) ∧ v = .tuple #[.pointer none, iv e] ∧ h = [(0, refI S' D')] ∧ m = 1500) ∨
 (∃ (x : RX) (e : Int), (e ≠ 0 ∧ ((e, []), x.D) = openL D) ∧ v = .tuple #[ptr 10, iv e] ∧ h = rlO x.fs.length x.ss.length x.fs x.ss x.ca x.cb x.S x.D ∧ m = 1500)) :=
 (rlopen_c S D hD hN).mono fun v h m ⟨x, hr, h1, h2, h3⟩ => by
  cases x with
  | ok x => exact .inl ⟨x, 0, ⟨rfl, hr.1, hr.2⟩, h1, h2, h3⟩
  | bad e S' D' => exact .inr (.inl ⟨e, D', S', ⟨hr.2, hr.1⟩, h1, h2, h3⟩)
  | part e x => exact .inr (.inr ⟨x, e, ⟨hr.2, hr.1⟩, h1, h2, h3⟩)
theorem open_same {e f : Int} {a b : List Fr} {D D1 D2 : DM} (h1 : ((e, a), D1) = openL D) (h2 : ((f, b), D2) = openL D) : e = f ∧ a = b ∧ D1 = D2 := by
 have := h1.trans h2.symm
 simp only [Prod.mk.injEq] at this
 exact ⟨this.1.1, this.1.2, this.2⟩
theorem sz16 {D : DM} {N : Int} (h : D.OkN N) (hN : N ≤ 1000000000) : (sizeD D logN).toNat ≤ 16384 := by
 have := sizeD_bound (up_ok h hN) logN
 omega
section
variable {N : Int} {c : Nat} {fs fs' : List Fr} {ss ss' : List Int} {cap ca cb cap' ca' cb' : Nat} {S S' T T' : Nat → Prop} {D D' : DM} {e : Int}
theorem LXR.t (h : LXR N c fs ss cap ca cb D) (S T : Nat → Prop) : LXT N c fs ss cap ca cb S T D := ⟨h⟩
theorem LXR.opn {D0 : DM} (hD : D0.OkN N) (hN : N ≤ 1000000000) (ho : ((0, fs), D) = openL D0) (h1 : fs.length ≤ cap) (h2 : fs.length ≤ ca) (h3 : ss.length ≤ cb) : LXR (N + 16390) c fs ss cap ca cb D := by
 have hk := openL_okN hD (sz16 hD hN)
 rw [← ho] at hk
 obtain ⟨q1, q2⟩ := openL_fr D0
 rw [← ho] at q1 q2
 have := sz16 hD hN
 exact ⟨hk.mono (by omega), h1, h2, h3, by dsimp only at q2; omega, q1⟩
theorem LXT.pgl (h : LXT N c fs ss cap ca cb S T D) (hc : c ≤ 100 := by omega) : (pgsN 4096 fs).length ≤ 4611686018427387904 := by
 obtain ⟨h1, h2, h3, h4⟩ := h.r.pages
 have := h.r.len
 omega
end
end Go.Proofs.YtcojbjakopkfbaaGreat
