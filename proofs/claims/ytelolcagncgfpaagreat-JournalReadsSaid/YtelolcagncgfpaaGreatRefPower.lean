/- The document's disk: New, Names, Bytes, On. -/
import Derived.Test.YtelolcagncgfpaaGreatRefApi
import Derived.Test.YtelolcagncgfpaaGreatDiskBytes
import Derived.Test.YtelolcagncgfpaaGreatDiskOn
import Derived.Test.YtelolcagncgfpaaGreatRefWrite
namespace Go.Proofs.YtelolcagncgfpaaGreat
open Go.RowKit
set_option linter.unusedSimpArgs false
set_option linter.unusedVariables false
theorem rnew_k (n : Int) (hn : -9223372036854775808 ≤ n ∧ n ≤ 9223372036854775807) :
 CallOb Tryz.prog 8 [iv n] [] 0 (fun v h m => ∃ (D : DM) (S : Nat → Prop), D = newD n ∧ v = ptr 10 ∧ h = [(10, refI S D)] ∧ m = 200) := by
 refine (rnew0_c n hn).conv ?_
 rintro v h1 n1 ⟨z, rfl, rfl, rfl, rfl⟩ F B w0 m w c H hv
 have H2 : HRel F B w0 (m.put 20 0 nilS) [(20, fzI (fun _ => False) []), (10, .own 63 (rdv 11 ([] : List RF).length 0 ⟨clampR n, false, 0, 0, 0, 0, 0⟩ ⟨0, 0, 0⟩)), (11, .lst 76 5 0 (([] : List RF).flatMap fileR))] 21 w := none_kept H
 obtain ⟨S, H3⟩ := close_ref H2 (i := 10) (j := 11) (f := 20) (E := []) (fs := []) rfl rfl rfl (by simp) ⟨rfl, ⟨fun _ => rfl, fun h => absurd rfl h, by decide, by decide, by decide⟩, Nat.le_refl _, fun e he => by cases he⟩
 have H3 : HRel F B w0 (m.put 20 0 nilS) [(10, refI S (newD n))] 21 w := H3
 exact ⟨_, ptr 10, _, 200, BM.le_put m 20 0 nilS, hv.mono (BM.le_put m 20 0 nilS), H3.up (BM.le_refl _) H3.fn (fun i g s x => Nat.lt_of_lt_of_le (H3.fresh i g s x) (by decide)), newD n, S, rfl, rfl, rfl, rfl⟩
abbrev nmE (x : RF) : Value := .string x.nm
theorem nm_next {E : List RF} {i : Nat} {x : RF} (hx : E[i]? = some x) : (E.take i).map nmE ++ [.string x.nm] = (E.take (i + 1)).map nmE := by
 rw [List.take_add_one, hx, List.map_append]; rfl
theorem nmE_flat {E : List RF} : ∀ v ∈ E.map nmE, flat1 v = true := fun v hv => by obtain ⟨x, _, rfl⟩ := List.mem_map.1 hv; rfl
structure NS where
 i : Nat
 c : Nat
theorem cell_torn' {c : Cv} (h : c.isNone = true) : List.replicate 256 0 = cellB c := by
 cases c with
 | none => rfl
 | some d => cases h
attribute [local irreducible] bytesOf strOf strEq strLt sfrom begS goodName cellB bytF bytesD
structure RBS where
 i : Nat
 d : List UInt8
 bc : Nat
theorem cell_le {c : Cv} (hc : OkC c) : (c.getD ⟨#[]⟩).size ≤ 256 := by
 cases c with
 | none => exact Nat.zero_le _
 | some d => exact Nat.le_of_eq hc
theorem map_all {α : Type} (f : α → Value) (d : List α) : ((d.map f).drop 0).take d.length = d.map f := by
 rw [List.drop_zero, List.take_of_length_le (by rw [List.length_map]; exact Nat.le_refl _)]
theorem cvRefPower1 {p : Prop} (h : p := by have nw := True.intro; (repeat' (first | exact True.intro | (with_reducible exact rfl) | (with_reducible exact AbsLe.refl) | (guard_target =~ @Eq Nat _ _; first | exact rfl | omega) | (guard_target =~ List.map _ _ = []; exact rfl) | (first | (guard_target =~ @Eq Nat _ _; (try dsimp only); omega) | exact covL_of (nm_next hx) nmE_flat | exact covL_of (by rw [List.take_of_length_le (by omega)]) nmE_flat | exact covL_of rfl nmE_flat | exact covL_still rfl (files_still _) | exact congrArg (Value.int _) (by (try dsimp only); omega) | (guard_target =~ @Eq Value _ _; exact rfl)) | (exact congrArg (Value.int _) (by omega)) | (exact covL_flat (flat_map (fun _ => rfl) _)) | (exact covL_flat flat_nil) | (refine covP_all ?_; (try clear nw); have nw := True.intro) | (refine covL_each ?_; (try clear nw); have nw := True.intro) | (refine ⟨?_, ?_⟩ <;> (try clear nw) <;> have nw := True.intro) | (guard_hyp nw : True; ((conv => whnf) <;> clear nw)))); (first | done | fail)) : p := h
theorem rnRefPower2 {p : Prop} (h : p := by refine ⟨?_, ?_, ?_⟩; (first | apply rR_tuple | apply rR_one rfl | exact rfl); all_goals (repeat' (first | (with_reducible (first | exact relH_nil | apply rn_lst | apply rn_own | apply rn_mp | apply rn_row | apply rn_abs | exact wo_nil)) | apply wo_keep rfl | apply wo_drop rfl | exact relH_nil | exact r1_flat rfl | exact r0_flat rfl | exact rl_nil | exact wo_nil | exact bk_old rfl | exact bk_new rfl | exact bk_nil rfl | apply rl_cons | (first | exact relL_still hvs | exact relL_still (files_still _)) | exact relL_flat (flat_map (fun _ => rfl) _) | exact relL_flat flat_nil | apply relL_to | apply rn_lst | apply rn_own | apply rn_mp | apply rn_row | apply relH_view rfl | apply relH_lview rfl | apply relH_fact rfl | exact r1_rig | exact r0_rig | exact r1_rigs | exact r0_rigs | apply wo_keep rfl | apply wo_drop rfl | apply r1_agg | apply rn_ptr | apply rn_slice | apply rn_slice0 | apply rn_iface | apply rn_map | apply rn_ifacem | apply r0_map | apply r0_ifacem | apply r0_ptr | apply r0_slice | apply r0_slice0 | apply r0_iface)); (first | done | fail)) : p := h
theorem cvRefPower3 {p : Prop} (h : p := by have nw := True.intro; (repeat' (first | exact True.intro | (with_reducible exact rfl) | (with_reducible exact AbsLe.refl) | (guard_target =~ @Eq Nat _ _; first | exact rfl | omega) | (guard_target =~ List.map _ _ = []; exact rfl) | (first | (guard_target =~ @Eq Nat _ _; (try dsimp only); first | omega | (rw [List.length_append, List.length_replicate]; done) | (rw [List.length_append, bytesOf_length]; done)) | exact covL_of (List.map_append).symm (flat_map (fun _ => rfl) _) | exact covL_of rfl (flat_map (fun _ => rfl) _) | exact covL_still rfl (files_still _) | exact congrArg (Value.int _) (by (try dsimp only); omega) | (guard_target =~ @Eq Value _ _; exact rfl)) | (exact congrArg (Value.int _) (by omega)) | (exact covL_flat (flat_map (fun _ => rfl) _)) | (exact covL_flat flat_nil) | (refine covP_all ?_; (try clear nw); have nw := True.intro) | (refine covL_each ?_; (try clear nw); have nw := True.intro) | (refine ⟨?_, ?_⟩ <;> (try clear nw) <;> have nw := True.intro) | (guard_hyp nw : True; ((conv => whnf) <;> clear nw)))); (first | done | fail)) : p := h
set_option maxRecDepth 100000 in
set_option maxHeartbeats 1000000 in
theorem rbytes_o (E : List RF) (c : Nat) (dk : Dk) (q : RK) (S : Nat → Prop) (s : ByteArray) (hO : OpR dk q E c) :
 CallOb Tryz.prog 17 [ptr 0, .string s] (opH 1 c dk q E S) 3 (fun v hh m => ∃ z : ByteArray, z = bytesD ⟨dk, filesR E⟩ s ∧ v = .string z ∧ hh = opH 1 c dk q E S ∧ m = 3) := by
 have hl := hO.len
 refine call_spec tabOk mixed Tryz.call17 Tryz.func17 rfl [] (fun z : ByteArray => z = bytesD ⟨dk, filesR E⟩ s) (fun z => .string z) (fun _ => opH 1 c dk q E S) (fun _ => 3) ?_ ?_
 · exact (Nat.le_of_ble_eq_true rfl)
 dsimp only [opH, rdv]
 (repeat' ((try (conv => whnf)); first | (guard_target =~ ∃ (_ : Value), ∃ (_ : HP), ∃ (_ : HP), _; refine ⟨_, _, _, rnRefPower2, ?_⟩; (try (dsimp only [Nat.reduceAdd, bC, bL]))) | (guard_target =~ CallOb _ 32 _ _ _ _; refine call_q (rplace_c E c dk q s hO.len) [(0, some 0), (1, some 1)] cvRefPower1 rfT rfT rfT (fun v h1 n1 hp => ?_); obtain ⟨z, hz, rfl, rfl, rfl⟩ := hp; obtain ⟨zv, hzv⟩ : ∃ y : Int, y = z := ⟨z, rfl⟩; rcases hz with ⟨hzn, hz⟩ | ⟨p, x, hx, hnx, hzp⟩; all_goals (rw [← hzv]); all_goals (first | (have hno := place_none hz) | (have hxm := List.mem_of_getElem? hx; have hpl := (List.getElem?_eq_some_iff.1 hx).1; have hfd := place_some hO.fs.sorted hx hnx; have hcx := hO.cap x hxm; have hxo := hO.ok hxm; have hxl := hxo.len)); all_goals (try (dsimp only [Nat.reduceAdd, bC, bL]))) | (guard_hyp hx : E[p]? = some x; guard_target =~ LoopOb _ _ _ _ _ _ _ _; refine loop_rule tabOk mixed [] 4 (fun k : RBS => [(0, ptr 0), (5, iv zv), (6, mslice 3 k.d.length k.bc), (7, iv ((k.i : Nat) : Int))]) (fun k => [(0, .own 63 (rdv 1 E.length c dk q)), (1, .lst 76 5 c (E.flatMap fileR)), (2, fzI S E), (3, .lst 5 1 k.bc (k.d.map byteV'))]) (fun k => x.X.now.length - k.i) (fun k => k.i ≤ x.X.now.length ∧ k.d = bytF x.X.now k.i) ⟨0, [], 0⟩ ⟨Nat.zero_le _, bytF_0 _⟩ ⟨[(3, some _)], Sub.q cvRefPower1 (by rfl) (by rfl)⟩ (fun k hk => ?_)) | (guard_hyp hno : findF (filesR E) s = none; (guard_target =~ LoopOb _ _ _ _ _ _ _ _; with_reducible refine loop_fuel tabOk mixed [] 1 ?_)) | (guard_hyp k : RBS; rcases k with ⟨i, d, bc⟩; obtain ⟨h1, h2⟩ := hk; dsimp only at h1 h2 ⊢; have hdl := bytF_len hxo.now i; rw [← h2] at hdl; have mkI : 1 = 1 := rfl) | (guard_target =~ ∃ (k : Nat), (k : Int) = zv ∧ _; refine ⟨p, by omega, ?_⟩) | (guard_target =~ ∃ (k : Nat), (k : Int) = ((i : Nat) : Int) ∧ _; guard_hyp mkI : 1 = 1; obtain ⟨g, o, hpa, hga⟩ := plc_at hcx.a (show 0 < x.X.now.length by omega); obtain ⟨cv, hcv⟩ : ∃ cv, x.X.now[i]? = some cv := ⟨_, List.getElem?_eq_getElem omT⟩; have hcok := hxo.now cv (List.mem_of_getElem? hcv); have hcz := cell_le hcok; clear mkI; refine ⟨i, rfl, by omega, g, o, hga, ?_⟩) | (guard_hyp hx : E[p]? = some x; refine onS_in (v := rs x.a x.X.now.length x.ka) (by show (E.flatMap fileR)[0 + p * 5 + 1]? = _; exact cell_rf hx (by decide) rfl) ?_) | (guard_target =~ ∃ _, RigLd _ _ _ _ _ _ ∧ _; refine ⟨.agg (cellN cv).toArray, rig_whole (i := 2) (S := S) (E := E) rfl (fz_mem hxm) hpa hcv ⟨_, rfl, rfl, rfl⟩, ?_⟩) | (guard_target =~ ∃ (k : Nat), (k : Int) = _ ∧ _; refine ⟨256, rfl, ?_⟩) | (guard_target =~ ∃ (_ : List UInt8), _; first | refine ⟨d, map_all _ d, rfl, ?_⟩ | refine ⟨[], rfl, rfl, ?_⟩) | (refine ⟨(by rw [List.length_map, Nat.mul_one]), ?_⟩) | (with_reducible first | refine chk_in (Nat.ble_eq_true_of_le omT) ?_ | (refine ifB_in ?_ ?_ <;> intro hb <;> (try simp only [bN1, bN2, bN3, bN4, bN5, bN6, bN7, bN8, bN9, bN0] at hb) <;> (try (exfalso; omega))) | refine ⟨_, w64b _, ?_⟩ | refine ⟨_, w64 omT omT, ?_⟩ | refine ⟨_, wu64 omT omT, ?_⟩ | refine ⟨_, wu8 omT omT, ?_⟩ | refine ⟨_, w64 szT szT, ?_⟩ | refine ⟨_, rfl, ?_⟩ | refine ⟨rfl, ?_⟩) | intro cap | (with_reducible refine ⟨trivial, ?_⟩) | (guard_target =~ (planChk _ _ = true) ∧ _; refine ⟨by kernel_rfl, ?_⟩) | (guard_target =~ (_ ∧ _) ∧ _; refine ⟨by ((repeat (first | exact trivial | refine ⟨rfl, ?_⟩)); (first | done | fail)), ?_⟩) | refine ⟨by omega, ?_⟩ | refine ⟨szT, ?_⟩ | refine ⟨0, rfl, ?_⟩ | refine ⟨1, rfl, ?_⟩ | refine ⟨2, rfl, ?_⟩ | refine ⟨3, rfl, ?_⟩ | refine ⟨4, rfl, ?_⟩ | refine ⟨5, rfl, ?_⟩ | (refine cell_at1 (by assumption) ?_) | (refine cell_in1 omT (fun x hx => ?_)) | fail)) <;> (try (conv => whnf))
 all_goals first
  | (exfalso; omega)
  | (guard_hyp hb : cv.isNone = true; rename_i c2; (refine Again.go ((⟨i + 1, d ++ List.replicate 256 0, c2⟩ : RBS)) ?_ (by (try dsimp only); omega) [(3, some 5)] (Sub.q cvRefPower3 (by rfl) (by rfl))); exact ⟨by dsimp only; omega, bytF_next hcv h2 (cell_torn' hb)⟩)
  | (guard_hyp hb : cv.isNone = false; rename_i c2; (refine Again.go ((⟨i + 1, d ++ bytesOf (cv.getD ⟨#[]⟩), c2⟩ : RBS)) ?_ (by (try dsimp only); omega) [(3, some 5)] (Sub.q cvRefPower3 (by rfl) (by rfl))); exact ⟨by dsimp only; omega, bytF_next hcv h2 (cell_good hb hcok).1⟩)
  | (guard_hyp hno : findF (filesR E) s = none; (refine Ends.go (strOf []) ?_ [] (Fit.q cvRefPower3 (by rfl) (by rfl))); unfold bytesD; dsimp only; rw [hno]; rfl)
  | (obtain rfl : i = x.X.now.length := (by omega); (refine Ends.go (strOf d) ?_ [] (Fit.q cvRefPower3 (by rfl) (by rfl))); unfold bytesD; dsimp only; rw [hfd, h2, bytF_all (Nat.le_refl _)]; rfl)
  | trace_state
theorem rbytes_k (S : Nat → Prop) (D : DM) (hD : D.Ok) (s : ByteArray) :
 CallOb Tryz.prog 17 [ptr 0, .string s] [(0, refI S D)] 1 (RefP (fun a : ByteArray => .string a) (fun a D' => D' = D ∧ a = bytesD D s)) :=
 of_ref Tryz.call17 fun E c q S' hO => (rbytes_o E c D.k q S' s (open_op hD hO)).conv fun v h1 n1 ⟨z, hz, hv, hh, hm⟩ F B w0 m w cc H hc => by
  subst hv hh hm
  have := ref_same (k := D.k) H (by decide) (fun _ h => h) ⟨rfl, hO.rk, hO.le, hO.cap⟩
  rw [hO.fs] at hz this
  exact ref_end (vT := fun a : ByteArray => .string a) (a := z) (D := D) (by decide) hc ⟨rfl, hz⟩ this
end Go.Proofs.YtelolcagncgfpaaGreat
namespace Go.Proofs.YtelolcagncgfpaaGreat
open Go.RowKit
set_option linter.unusedSimpArgs false
set_option linter.unusedVariables false
structure G1R (l : List Int) (X : Fl) (u0 : Nat) (i : Nat) (S : List (Option Cv)) (u : Nat) : Prop where
 len : S.length = X.now.length
 eq : fates l X.now X.safe X.wait u0 = (S.take i ++ (fates l (X.now.drop i) (S.drop i) (X.wait.drop i) u).1, (fates l (X.now.drop i) (S.drop i) (X.wait.drop i) u).2)
 le : i ≤ X.now.length
 used : u ≤ u0 + i
section
variable {l : List Int} {X : Fl} {u0 i u : Nat} {S : List (Option Cv)}
theorem G1R.start (hX : X.Ok) : G1R l X u0 0 X.safe u0 := ⟨hX.safe, by simp, Nat.zero_le _, Nat.le_refl _⟩
theorem G1R.skip (h : G1R l X u0 i S u) (hw : X.wait[i]? = some false) (hi : i < X.now.length) : G1R l X u0 (i + 1) S u := by
 obtain ⟨h2, h3, h6, h7⟩ := h
 refine ⟨h2, ?_, hi, by omega⟩
 have hS : S[i]? = some S[i] := List.getElem?_eq_getElem (by omega)
 rw [fates_go (List.getElem?_eq_getElem hi) hS hw] at h3
 rw [h3, if_neg (by decide), take_snoc1 hS, List.append_assoc]
 rfl
theorem G1R.set (h : G1R l X u0 i S u) (hw : X.wait[i]? = some true) (hi : i < X.now.length) {c d : Cv} (hc : X.now[i]? = some c) (hf : ∀ s, fateC (fateAt l u) c s = some d) : G1R l X u0 (i + 1) (S.set i (some d)) (u + 1) := by
 obtain ⟨h2, h3, h6, h7⟩ := h
 have hS : S[i]? = some S[i] := List.getElem?_eq_getElem (by omega)
 rw [fates_go hc hS hw, if_pos rfl, hf] at h3
 refine ⟨(List.length_set ..).trans h2, ?_, hi, by omega⟩
 rw [h3, set_take1 (by omega), set_drop1, List.append_assoc]
 rfl
theorem G1R.lost (h : G1R l X u0 i S u) (hw : X.wait[i]? = some true) (hi : i < X.now.length) (n1 : fateAt l u ≠ 1) (n2 : fateAt l u ≠ 2) : G1R l X u0 (i + 1) S (u + 1) := by
 obtain ⟨h2, h3, h6, h7⟩ := h
 have hS : S[i]? = some S[i] := List.getElem?_eq_getElem (by omega)
 have e : ∀ c s, fateC (fateAt l u) c s = s := fun c s => by unfold fateC; rw [if_neg n1, if_neg n2]
 rw [fates_go (List.getElem?_eq_getElem hi) hS hw, if_pos rfl, e] at h3
 refine ⟨h2, ?_, hi, by omega⟩
 rw [h3, take_snoc1 hS, List.append_assoc]
 rfl
theorem G1R.kept (h : G1R l X u0 i S u) (hw : X.wait[i]? = some true) (hi : i < X.now.length) {c : Cv} (hc : X.now[i]? = some c) (h1 : fateAt l u = 1) : G1R l X u0 (i + 1) (S.set i (some c)) (u + 1) :=
 h.set hw hi hc fun s => by unfold fateC; rw [if_pos h1]
theorem G1R.torn (h : G1R l X u0 i S u) (hw : X.wait[i]? = some true) (hi : i < X.now.length) (h1 : fateAt l u = 2) : G1R l X u0 (i + 1) (S.set i (some none)) (u + 1) :=
 h.set hw hi (List.getElem?_eq_getElem hi) fun s => by unfold fateC; rw [h1]; rfl
theorem G1R.done (h : G1R l X u0 i S u) (hi : i = X.now.length) (hX : X.Ok) : fates l X.now X.safe X.wait u0 = (S, u) := by
 obtain ⟨h2, h3, h6, h7⟩ := h
 have e1 := hX.wait
 rw [h3, List.drop_of_length_le (by omega), List.drop_of_length_le (by omega), List.drop_of_length_le (by omega), List.take_of_length_le (by omega)]
 show (S ++ [], u) = _
 rw [List.append_nil]
end
structure G2R (S : List (Option Cv)) (i n : Nat) : Prop where
 le : i ≤ S.length
 ni : n ≤ i
 last : n = 0 ∨ ∃ c, S[n - 1]? = some (some c)
 no : ∀ j, n ≤ j → j < i → S[j]? = some none
structure FI1 where
 i : Nat
 S : List (Option Cv)
 u : Nat
 c : Nat
structure FI2 where
 i : Nat
 n : Nat
theorem fate_in {l : List Int} {u : Nat} {fv : Int} (h0 : 0 < l.length) (h : l[u % l.length]? = some fv) : fateAt l u = fv := by
 unfold fateAt
 rw [if_neg (fun e => by subst e; exact absurd h0 (Nat.lt_irrefl _)), List.getD_eq_getElem?_getD, h]
 rfl
theorem fate_no {l : List Int} {u : Nat} (h0 : l.length = 0) : fateAt l u = 0 := by
 unfold fateAt
 rw [if_pos (List.eq_nil_of_length_eq_zero h0)]
theorem put_safe {S : List (Option Cv)} {i : Nat} (c : Cv) (h : i < S.length) : putL (S.flatMap cellS) (0 + i * 3) (cellN c) = (S.set i (some c)).flatMap cellS := by
 rw [Nat.zero_add, ← put_cells cellS 3 (fun _ => rfl) S i (some c) h, cellS_some]
theorem st_s {S : List (Option Cv)} {i : Nat} (h : i < S.length) : 0 + i * 3 + 3 ≤ (S.flatMap cellS).length := by rw [len_cells cellS 3 (fun _ => rfl)]; omega
theorem cell_s {S : List (Option Cv)} {i : Nat} {c : Option Cv} (h : S[i]? = some c) : (S.flatMap cellS)[0 + i * 3 + 0]? = some (.bool c.isSome) := by
 have h2 := (subL_ok (flat_sub (f := cellS) (n := 3) (fun _ => rfl) h (o := 0 + i * 3) (by omega))).1
 have : (cellS c)[0]? = some (Value.bool c.isSome) := rfl
 rw [← h2, List.getElem?_take, if_pos (by omega), List.getElem?_drop] at this
 exact this
theorem zero_row (n : Nat) : ((List.replicate n [Value.int .u8 0]).flatten.drop 0).take n = (List.replicate n (0 : UInt8)).map byteV' := by
 have : (List.replicate n [Value.int .u8 0]).flatten = (List.replicate n (0 : UInt8)).map byteV' := by
  induction n with
  | zero => rfl
  | succ n ih => rw [List.replicate_succ, List.flatten_cons, ih, List.replicate_succ, List.map_cons]; rfl
 rw [this, List.drop_zero, List.take_of_length_le (by rw [List.length_map, List.length_replicate]; exact Nat.le_refl _)]
theorem fill_put {T : List (Option Cv)} {i : Nat} (h : T[i]? = some none) : putL ((fillI T i).flatMap cellS) (0 + i * 3) [.bool true, .string (strOf (List.replicate 256 0)), .bool false] = (fillI T (i + 1)).flatMap cellS := by
 rw [fillI_new h]
 exact put_safe (some zero256) (by rw [fillI_len]; exact (List.getElem?_eq_some_iff.1 h).1)
structure FI3 where
 i : Nat
attribute [local irreducible] bytesOf strOf strEq strLt sfrom begS goodName fates fateAt trimC fillI fateC zero256
end Go.Proofs.YtelolcagncgfpaaGreat
namespace Go.Proofs.YtelolcagncgfpaaGreat
open Go.RowKit
set_option linter.unusedSimpArgs false
set_option linter.unusedVariables false
structure OnW (l : List Int) (E : List RF) (i u : Nat) (Eo : List RF) : Prop where
 eq : onF l (filesR E) 0 = filesR Eo ++ onF l (filesR (E.drop i)) u
 le : i ≤ E.length
 used : u ≤ 16384 * i
 len : Eo.length ≤ i
 cap : ∀ e ∈ Eo, e.Cap
theorem OnW.start (l : List Int) (E : List RF) : OnW l E 0 0 [] := ⟨rfl, Nat.zero_le _, Nat.zero_le _, Nat.le_refl _, fun e he => by cases he⟩
section
variable {l : List Int} {E : List RF} {i u : Nat} {Eo : List RF} {x : RF}
theorem filesR_drop (hx : E[i]? = some x) : filesR (E.drop i) = (x.nm, x.X) :: filesR (E.drop (i + 1)) := by
 rw [drop_at hx]; rfl
theorem OnW.gone (h : OnW l E i u Eo) (hx : E[i]? = some x) (hX : x.X.Ok) (h1 : (fatedF l x.X u).1.now = []) (h2 : x.X.sure = false) : OnW l E (i + 1) (fatedF l x.X u).2 Eo := by
 obtain ⟨e1, e2, e3, e4, e5⟩ := h
 rw [filesR_drop hx, onF_cons, if_pos ⟨h1, h2⟩] at e1
 have := fated_used (l := l) (u := u) hX
 exact ⟨e1, (List.getElem?_eq_some_iff.1 hx).1, by omega, by omega, e5⟩
theorem OnW.kept (h : OnW l E i u Eo) (hx : E[i]? = some x) (hX : x.X.Ok) (h1 : ¬ ((fatedF l x.X u).1.now = [] ∧ x.X.sure = false)) {e : RF} (he : e.nm = x.nm) (hE : e.X = onX l x.X u) (hc : e.Cap) : OnW l E (i + 1) (fatedF l x.X u).2 (Eo ++ [e]) := by
 obtain ⟨e1, e2, e3, e4, e5⟩ := h
 rw [filesR_drop hx, onF_cons, if_neg h1] at e1
 have := fated_used (l := l) (u := u) hX
 refine ⟨?_, (List.getElem?_eq_some_iff.1 hx).1, by omega, by rw [List.length_append]; exact Nat.succ_le_succ e4, fun y hy => ?_⟩
 · rw [e1, ← he, ← hE]
   unfold filesR
   rw [List.map_append, List.append_assoc]
   rfl
 · rcases List.mem_append.1 hy with hy | hy
   · exact e5 y hy
   · obtain rfl := List.mem_singleton.1 hy
     exact hc
theorem OnW.gone' {Y : Fl} {u2 : Nat} (h : OnW l E i u Eo) (hx : E[i]? = some x) (hX : x.X.Ok) (hz : (Y, u2) = fatedF l x.X u) (h1 : Y.now = []) (h2 : x.X.sure = false) : OnW l E (i + 1) u2 Eo := by
 obtain rfl : Y = (fatedF l x.X u).1 := congrArg Prod.fst hz
 obtain rfl : u2 = (fatedF l x.X u).2 := congrArg Prod.snd hz
 exact h.gone hx hX h1 h2
theorem OnW.kept' {Y : Fl} {u2 : Nat} (h : OnW l E i u Eo) (hx : E[i]? = some x) (hX : x.X.Ok) (hz : (Y, u2) = fatedF l x.X u) (h1 : ¬ (Y.now = [] ∧ x.X.sure = false)) {e : RF} (he : e.nm = x.nm) (hE : e.X = ⟨Y.now, Y.now.map some, List.replicate Y.now.length false, true⟩) (hc : e.Cap) : OnW l E (i + 1) u2 (Eo ++ [e]) := by
 obtain rfl : Y = (fatedF l x.X u).1 := congrArg Prod.fst hz
 obtain rfl : u2 = (fatedF l x.X u).2 := congrArg Prod.snd hz
 exact h.kept hx hX h1 he hE hc
theorem OnW.done (h : OnW l E i u Eo) (hi : E.length ≤ i) : onF l (filesR E) 0 = filesR Eo := by
 have := h.eq
 rw [List.drop_of_length_le hi] at this
 rw [this]
 exact List.append_nil _
end
structure OW where
 i : Nat
 u : Nat
 Eo : List RF
 So : Nat → Prop
 cc : Nat
structure OnWR (l : List Int) (E : List RF) (k : OW) : Prop where
 w : OnW l E k.i k.u k.Eo
 cc : k.Eo.length ≤ k.cc
abbrev onJ (l : List Int) (E : List RF) (c : Nat) (dk : Dk) (q : RK) (S : Nat → Prop) (k : OW) : HP :=
 [(0, .own 63 (rdv 2 E.length c dk q)), (1, .lview (l.map iv)), (2, .lst 76 5 c (E.flatMap fileR)), (3, fzI S E), (4, .lst 76 5 k.cc (k.Eo.flatMap fileR)), (5, fzI k.So k.Eo)]
section
variable {F : Nat → Prop} {B : Nat} {w0 : World} {m : BM} {w : World} {l : List Int} {E : List RF} {c : Nat} {dk : Dk} {q : RK} {S So : Nat → Prop} {Eo : List RF}
theorem on_begin (H : HRel F B w0 m [(0, .own 63 (rdv 2 E.length c dk q)), (1, .lview (l.map iv)), (2, .lst 76 5 c (E.flatMap fileR)), (3, fzI S E), (4, .lst 76 5 0 [])] 5 w) : HRel F B w0 (m.put 5 0 nilS) (onJ l E c dk q S ⟨0, 0, [], fun _ => False, 0⟩) 12 w := by
 have H2 := none_kept H
 refine (H2.sub_of fun i it e => ?_).up (BM.le_refl _) H2.fn (fun i g s x => Nat.lt_of_lt_of_le (H2.fresh i g s x) (by decide))
 have := lkH_mem e
 simp only [List.mem_cons, Prod.mk.injEq, List.not_mem_nil, or_false] at this
 rcases this with ⟨rfl, rfl⟩ | ⟨rfl, rfl⟩ | ⟨rfl, rfl⟩ | ⟨rfl, rfl⟩ | ⟨rfl, rfl⟩ | ⟨rfl, rfl⟩ <;> rfl
theorem on_put {nm : ByteArray} {Y : Fl} {c4 z1 z2 z3 i u : Nat} (hY : Y.safe = Y.now.map some ∧ Y.wait = List.replicate Y.now.length false ∧ Y.sure = true) (k1 : Y.now.length ≤ z1) (k2 : Y.now.length ≤ z2) (k3 : Y.now.length ≤ z3)
 (H : HRel F B w0 m [(0, .own 63 (rdv 2 E.length c dk q)), (1, .lview (l.map iv)), (2, .lst 76 5 c (E.flatMap fileR)), (3, fzI S E), (4, .lst 76 5 c4 (Eo.flatMap fileR ++ [.string nm, mslice 6 Y.now.length z1, mslice 7 Y.now.length z2, mslice 8 Y.now.length z3, .bool true])), (5, fzI So Eo),
  (6, .lst 78 3 z1 (Y.now.flatMap cellN)), (7, .lst 78 3 z2 (Y.now.flatMap cellN)), (8, .lst 4 1 z3 ((List.replicate Y.now.length false).map .bool))] 12 w) :
 ∃ (e : RF) (S2 : Nat → Prop), e.nm = nm ∧ e.X = Y ∧ e.Cap ∧ HRel F B w0 m (onJ l E c dk q S ⟨i, u, Eo ++ [e], S2, c4⟩) 12 w := by
 obtain ⟨Yn, Ys, Yw, Yb⟩ := Y
 obtain ⟨y1, y2, y3⟩ := hY
 dsimp only at y1 y2 y3 k1 k2 k3 H
 subst y1 y2 y3
 obtain ⟨p1, S1, hs1, K1, H1⟩ := keep_new H (a := 6) (f := 5) (l := Yn.length) rfl rfl (by decide) (fun v hv => cells_flat hv) (fun h => nil_len (f := cellN) (z := 3) (fun _ => rfl) (by decide) h)
 have H1' : HRel F B w0 m [(5, fzI S1 Eo), (0, .own 63 (rdv 2 E.length c dk q)), (1, .lview (l.map iv)), (2, .lst 76 5 c (E.flatMap fileR)), (3, fzI S E), (4, .lst 76 5 c4 (Eo.flatMap fileR ++ [.string nm, mslice 6 Yn.length z1, mslice 7 Yn.length z2, mslice 8 Yn.length z3, .bool true])), (7, .lst 78 3 z2 (Yn.flatMap cellN)), (8, .lst 4 1 z3 ((List.replicate Yn.length false).map .bool))] 12 w := H1
 obtain ⟨p2, S2, hs2, K2, H2⟩ := keep_new H1' (a := 7) (f := 5) (l := Yn.length) rfl rfl (by decide) (fun v hv => cells_flat hv) (fun h => nil_len (f := cellN) (z := 3) (fun _ => rfl) (by decide) h)
 have H2' : HRel F B w0 m [(5, fzI S2 Eo), (0, .own 63 (rdv 2 E.length c dk q)), (1, .lview (l.map iv)), (2, .lst 76 5 c (E.flatMap fileR)), (3, fzI S E), (4, .lst 76 5 c4 (Eo.flatMap fileR ++ [.string nm, mslice 6 Yn.length z1, mslice 7 Yn.length z2, mslice 8 Yn.length z3, .bool true])), (8, .lst 4 1 z3 ((List.replicate Yn.length false).map .bool))] 12 w := H2
 obtain ⟨p3, S3, hs3, K3, H3⟩ := keep_new H2' (a := 8) (f := 5) (l := Yn.length) rfl rfl (by decide) (fun v hv => bools_flat hv) (fun h => by have := nil_map h; rwa [List.length_replicate] at this)
 have H3' : HRel F B w0 m [(5, fzI S3 Eo), (0, .own 63 (rdv 2 E.length c dk q)), (1, .lview (l.map iv)), (2, .lst 76 5 c (E.flatMap fileR)), (3, fzI S E), (4, .lst 76 5 c4 (Eo.flatMap fileR ++ ([.string nm, mslice 6 Yn.length z1, mslice 7 Yn.length z2, mslice 8 Yn.length z3, .bool true] ++ ([] : List RF).flatMap fileR)))] 12 w := H3
 have H4 := put_kept H3' (j := 4) (f := 5) (X := ⟨Yn, Yn.map some, List.replicate Yn.length false, true⟩) rfl rfl (by decide) ((K1.more hs2).more hs3) (by
  show Kept m w S3 p2 (Yn.map some).length z2 (mslice 7 Yn.length z2) ((Yn.map some).flatMap cellS)
  rw [List.length_map, safe_now]
  exact K2.more hs3) (by
  show Kept m w S3 p3 (List.replicate Yn.length false).length z3 (mslice 8 Yn.length z3) ((List.replicate Yn.length false).map .bool)
  rw [List.length_replicate]
  exact K3)
 refine ⟨⟨nm, ⟨Yn, Yn.map some, List.replicate Yn.length false, true⟩, p1, p2, p3, z1, z2, z3⟩, S3, rfl, rfl, ⟨⟨k1, K1.plc⟩, ⟨by show (Yn.map some).length ≤ _; rw [List.length_map]; exact k2, by show ((Yn.map some).length = 0 ∧ _) ∨ _; rw [List.length_map]; exact K2.plc⟩, ⟨by show (List.replicate Yn.length false).length ≤ _; rw [List.length_replicate]; exact k3, by show ((List.replicate Yn.length false).length = 0 ∧ _) ∨ _; rw [List.length_replicate]; exact K3.plc⟩⟩, ?_⟩
 have H5 : HRel F B w0 m [(5, fzI S3 (⟨nm, ⟨Yn, Yn.map some, List.replicate Yn.length false, true⟩, p1, p2, p3, z1, z2, z3⟩ :: Eo)), (0, .own 63 (rdv 2 E.length c dk q)), (1, .lview (l.map iv)), (2, .lst 76 5 c (E.flatMap fileR)), (3, fzI S E), (4, .lst 76 5 c4 ((Eo ++ [(⟨nm, ⟨Yn, Yn.map some, List.replicate Yn.length false, true⟩, p1, p2, p3, z1, z2, z3⟩ : RF)]).flatMap fileR))] 12 w := H4
 have H6 := less_kept H5 (f := 5) (E := (⟨nm, ⟨Yn, Yn.map some, List.replicate Yn.length false, true⟩, p1, p2, p3, z1, z2, z3⟩ : RF) :: Eo) (E' := Eo ++ [(⟨nm, ⟨Yn, Yn.map some, List.replicate Yn.length false, true⟩, p1, p2, p3, z1, z2, z3⟩ : RF)]) rfl (fun w h x hx => h x (by
  rcases List.mem_append.1 hx with hx | hx
  · exact List.mem_cons_of_mem _ hx
  · rw [List.mem_singleton.1 hx]; exact List.mem_cons_self))
 refine H6.sub_of fun i it e => ?_
 have := lkH_mem e
 simp only [List.mem_cons, Prod.mk.injEq, List.not_mem_nil, or_false] at this
 rcases this with ⟨rfl, rfl⟩ | ⟨rfl, rfl⟩ | ⟨rfl, rfl⟩ | ⟨rfl, rfl⟩ | ⟨rfl, rfl⟩ | ⟨rfl, rfl⟩ <;> rfl
end
theorem onX_is (l : List Int) (X : Fl) (u : Nat) : (onX l X u).safe = (onX l X u).now.map some ∧ (onX l X u).wait = List.replicate (onX l X u).now.length false ∧ (onX l X u).sure = true := ⟨rfl, rfl, rfl⟩
structure OnZ where
 k : Dk
 E : List RF
 c : Nat
 S : Nat → Prop
structure OnOk (l : List Int) (dk : Dk) (E : List RF) (z : OnZ) : Prop where
 is : (dk.down = false ∧ z.k = dk ∧ filesR z.E = filesR E) ∨ (dk.down = true ∧ z.k = { dk with down := false } ∧ filesR z.E = onF l (filesR E) 0)
 le : z.E.length ≤ z.c
 cap : ∀ e ∈ z.E, e.Cap
theorem len_nil' {l : List Cv} (h : ((l.length : Nat) : Int) ≤ 0) : l = [] := List.eq_nil_of_length_eq_zero (by omega)
theorem len_some {l : List Cv} (h : 0 < ((l.length : Nat) : Int)) : l ≠ [] := fun e => by rw [e] at h; cases h
theorem len_rf1' {E : List RF} {l : List Value} {n : Nat} (h : l.length = 5) (hn : n = E.length) : (E.flatMap fileR).length = n * 5 := by rw [len_cells fileR 5 (fun _ => rfl), hn]
attribute [local irreducible] bytesOf strOf strEq strLt sfrom begS goodName fates fateAt fatedF onF
theorem of_ref2 {f : FuncId} (hok : FnOk Tryz.prog f) {args : List Value} {S : Nat → Prop} {D : DM} {Lv : List Value} {K : Value → HP → Nat → Prop} (hc : ∀ E c q S', OpenR D E c q → CallOb Tryz.prog f (ptr 0 :: args) [(0, .own 63 (rdv 2 E.length c D.k q)), (1, .lview Lv), (2, .lst 76 5 c (E.flatMap fileR)), (3, fzI S' E)] 4 K) :
 CallOb Tryz.prog f (ptr 0 :: args) [(0, refI S D), (1, .lview Lv)] 2 K := by
 refine CallOb.pre hok fun F B w0 m w cs H hcs => ?_
 match cs, hcs with
 | c :: cs, ⟨h0, hr⟩ =>
  obtain ⟨b, hb, rfl⟩ := VR.ptr h0
  obtain ⟨g, s, hg, hs, rfl⟩ := hb.old
  obtain ⟨g', s', hg', ok⟩ := H.dom 0 _ (rfl : lkH [(0, refI S D), (1, .lview Lv)] 0 = some (refI S D))
  obtain ⟨rfl, rfl⟩ := H.fn _ _ _ _ _ hg hg'
  rcases ok.1 with ⟨x, _⟩ | rfl
  · exact absurd x hs
  obtain ⟨E, c, q, S', m', hle, hO, H'⟩ := open_ref H (i := 0) (S := S) (D := D) rfl hg
  refine ⟨m', ptr 0 :: args, [(0, .own 63 (rdv 2 E.length c D.k q)), (1, .lview Lv), (2, .lst 76 5 c (E.flatMap fileR)), (3, fzI S' E)], 4, hle, H'.sub_of fun i it e => ?_, ⟨h0.mono hle, LR.mono (fun _ _ x => x.mono hle) hr⟩, hc E c q S' hO⟩
  have := lkH_mem e
  simp only [List.mem_cons, Prod.mk.injEq, List.not_mem_nil, or_false] at this
  rcases this with ⟨rfl, rfl⟩ | ⟨rfl, rfl⟩ | ⟨rfl, rfl⟩ | ⟨rfl, rfl⟩ <;> rfl
end Go.Proofs.YtelolcagncgfpaaGreat
