/- The shelf's pages, kept in a map: the walks through reading and writing them. -/
import Derived.Test.YtpndofpcghfjdaaGreatDoorSpareGive
import Derived.Test.YtpndofpcghfjdaaGreatDoorSpareRep
import Derived.Test.YtpndofpcghfjdaaGreatDoorEngN
namespace Go.Proofs.YtpndofpcghfjdaaGreatDoor
open Go.RowKit
set_option linter.unusedSimpArgs false
set_option linter.unusedVariables false
theorem nv_inj {p : Int × ByteArray} {n : Int} : nv p = iv n ↔ p.1 = n := by
  constructor
  · intro h; injection h
  · rintro rfl; rfl
theorem first_none {B : Bk} {n : Int} {k : Nat} (h : FirstAt (B.map nv) (iv n) k) : ∃ p, B[k]? = some p ∧ p.1 = n ∧ NoneB (B.take k) n := by
  obtain ⟨h1, h2⟩ := h
  rw [List.getElem?_map] at h1
  cases hp : B[k]? with
  | none => rw [hp] at h1; cases h1
  | some p =>
    rw [hp] at h1
    refine ⟨p, rfl, nv_inj.1 (Option.some.inj h1), fun q hq => ?_⟩
    obtain ⟨a, ha⟩ := List.mem_iff_getElem?.1 hq
    rw [List.getElem?_take] at ha
    split at ha
    · rename_i hak
      exact fun e => h2 a (nv q) hak (by rw [List.getElem?_map, ha]; rfl) (nv_inj.2 e)
    · cases ha
theorem none_map {B : Bk} {n : Int} (h : ∀ u ∈ B.map nv, u ≠ iv n) : NoneB B n := fun p hp e => h (nv p) (List.mem_map_of_mem hp) (nv_inj.2 e)
theorem like_map (B : Bk) (n : Int) : ∀ u ∈ B.map nv, keyLike (iv n) u = true := fun u hu => by
  obtain ⟨p, _, rfl⟩ := List.mem_map.1 hu; rfl
theorem look_book {B : Bk} {n : Int} {Kf : Value → Prop} {Kn : Prop} (h1 : ∀ s, s = getB B n → Kf (.string s)) (h2 : NoneB B n → Kn) : LookOb (B.map nv) (B.map dv) (iv n) Kf Kn where
  kinds := like_map B n
  len := by rw [List.length_map, List.length_map]
  found j v hj hv := by
    obtain ⟨p, hp, hn, hN⟩ := first_none hj
    rw [List.getElem?_map, hp, Option.map_some] at hv
    obtain rfl := Option.some.inj hv
    exact h1 p.2 (getB_at hN hp hn).symm
  none h := h2 (none_map h)
theorem put_book {B : Bk} {n : Int} {d : ByteArray} : PutOb (B.map nv) (B.map dv) (iv n) (.string d) ((putB B n d).map nv) ((putB B n d).map dv) where
  kinds := like_map B n
  len := by rw [List.length_map, List.length_map]
  old j hj := by
    obtain ⟨p, hp, hn, hN⟩ := first_none hj
    rw [putB_at hN hp hn]
    exact ⟨set_map_fst (f := fun n => iv n) hp hn, (set_map_snd (f := fun d => .string d)).symm⟩
  new h := by
    rw [putB_none (none_map h)]
    exact ⟨by simp, by simp⟩
theorem blank_rep : strOf (List.replicate (Int.toNat 232) 0) = blankS := rfl
abbrev mapV (i : Nat) : Value := .map (some i)
abbrev bookM (B : Bk) : HP := [(0, .mp (B.map nv) (B.map dv))]
attribute [local irreducible] numOf fixedL bytesOf strOf strEq strLt sfrom padL headS trS trE fitT getB putB decTE decTN decTL
set_option maxRecDepth 100000 in
theorem blank_c (w : World) : Calls Tryz.prog 41 #[] w fun e w' => e = .returned (.string blankS) ∧ Below w.heap.size w w' := by
  refine calls_pure tabOk mixed Tryz.func41 rfl [] [] rfl (Nat.le_of_ble_eq_true rfl) rfl ?_ w
  have hrep : ∀ w, Calls Tryz.prog 51 #[.string ⟨#[0]⟩, .int .i64 232] w fun e w' => e = .returned (.string blankS) ∧ Below w.heap.size w w' := fun w => by
    have h := c_noughts 232 (by omega) (by omega) w
    rw [blank_rep] at h
    exact h
  obtain ⟨bs, hbs⟩ : ∃ b, b = blankS := ⟨_, rfl⟩
  rw [← hbs] at hrep ⊢
  (repeat' ((try (conv => whnf)); first | (guard_target =~ CallOb _ 51 _ _ _ _; (with_reducible refine call_pure Tryz.call51 (hrep) ?_ ?_ ?_); exact rfl; exact rfl) | (with_reducible refine chk_in (Nat.ble_eq_true_of_le (by omega)) ?_) | (with_reducible refine ifB_in ?_ ?_ <;> intro hb <;> (try simp only [decide_eq_true_eq, decide_eq_false_iff_not, Int.not_lt, Int.not_le, ne_eq, Decidable.not_not, Bool.not_eq_true', Bool.not_eq_false', gt_iff_lt, ge_iff_le] at hb) <;> (try (exfalso; omega))) | (with_reducible refine ⟨_, w64b _, ?_⟩) | (with_reducible refine ⟨_, w64 (by omega) (by omega), ?_⟩) | (with_reducible refine ⟨_, wu64 (by omega) (by omega), ?_⟩) | (with_reducible refine ⟨_, wu8 (by omega) (by omega), ?_⟩) | (with_reducible refine ⟨_, w64 (by (simp only [size_sfrom, ByteArray.size_extract, ByteArray.size_append, strOf_size, fixedL_length, lit_size, List.size_toArray, List.length_cons, List.length_nil, List.length_append, List.length_replicate]; omega)) (by (simp only [size_sfrom, ByteArray.size_extract, ByteArray.size_append, strOf_size, fixedL_length, lit_size, List.size_toArray, List.length_cons, List.length_nil, List.length_append, List.length_replicate]; omega)), ?_⟩) | (with_reducible refine ⟨_, rfl, ?_⟩) | (with_reducible refine ⟨rfl, ?_⟩) | (intro cap) | (with_reducible refine ⟨trivial, ?_⟩) | (guard_target =~ (planChk _ _ = true) ∧ _; refine ⟨by kernel_rfl, ?_⟩) | (guard_target =~ (_ ∧ _) ∧ _; refine ⟨by ((repeat (first | exact trivial | refine ⟨rfl, ?_⟩)); (first | done | fail)), ?_⟩) | (refine ⟨by omega, ?_⟩) | (refine ⟨by (simp only [size_sfrom, ByteArray.size_extract, ByteArray.size_append, strOf_size, fixedL_length, lit_size, List.size_toArray, List.length_cons, List.length_nil, List.length_append, List.length_replicate]; omega), ?_⟩) | (refine ⟨0, rfl, ?_⟩) | (refine ⟨1, rfl, ?_⟩) | (refine ⟨2, rfl, ?_⟩) | (refine ⟨3, rfl, ?_⟩) | (refine ⟨4, rfl, ?_⟩) | (refine ⟨5, rfl, ?_⟩) | (refine cell_at1 (by assumption) ?_) | (refine cell_in1 (by omega) (fun x hx => ?_)) | fail)) <;> (try (conv => whnf))
  rfl
set_option maxRecDepth 100000 in
theorem mget_c (B : Bk) (n : Int) : CallOb Tryz.prog 38 [mapV 0, iv n] (bookM B) 1 (fun v h m => ∃ x : ByteArray, x = getB B n ∧ v = .tuple #[.string x, iv 0] ∧ h = bookM B ∧ m = 1) := by
  refine call_spec tabOk mixed Tryz.call38 Tryz.func38 rfl [] (fun x : ByteArray => x = getB B n) (fun x => .tuple #[.string x, iv 0]) (fun _ => bookM B) (fun _ => 1) ?_ ?_
  · exact (Nat.le_of_ble_eq_true rfl)
  have hbl := blank_c
  (repeat' ((try (conv => whnf)); first | (guard_target =~ LookOb _ _ _ _ _; refine look_book (fun sg hsg => ?_) (fun hN => ?_)) | (guard_target =~ ∃ ks' vs', PutOb _ _ _ _ ks' vs' ∧ _; refine ⟨_, _, put_book, ?_⟩) | (guard_target =~ CallOb _ 41 _ _ _ _; (with_reducible refine call_pure Tryz.call41 (hbl) ?_ ?_ ?_); exact rfl; exact rfl) | (with_reducible refine chk_in (Nat.ble_eq_true_of_le (by omega)) ?_) | (with_reducible refine ifB_in ?_ ?_ <;> intro hb <;> (try simp only [decide_eq_true_eq, decide_eq_false_iff_not, Int.not_lt, Int.not_le, ne_eq, Decidable.not_not, Bool.not_eq_true', Bool.not_eq_false', gt_iff_lt, ge_iff_le] at hb) <;> (try (exfalso; omega))) | (with_reducible refine ⟨_, w64b _, ?_⟩) | (with_reducible refine ⟨_, w64 (by omega) (by omega), ?_⟩) | (with_reducible refine ⟨_, wu64 (by omega) (by omega), ?_⟩) | (with_reducible refine ⟨_, wu8 (by omega) (by omega), ?_⟩) | (with_reducible refine ⟨_, w64 (by (simp only [size_sfrom, ByteArray.size_extract, ByteArray.size_append, strOf_size, fixedL_length, lit_size, List.size_toArray, List.length_cons, List.length_nil, List.length_append, List.length_replicate]; omega)) (by (simp only [size_sfrom, ByteArray.size_extract, ByteArray.size_append, strOf_size, fixedL_length, lit_size, List.size_toArray, List.length_cons, List.length_nil, List.length_append, List.length_replicate]; omega)), ?_⟩) | (with_reducible refine ⟨_, rfl, ?_⟩) | (with_reducible refine ⟨rfl, ?_⟩) | (intro cap) | (with_reducible refine ⟨trivial, ?_⟩) | (guard_target =~ (planChk _ _ = true) ∧ _; refine ⟨by kernel_rfl, ?_⟩) | (guard_target =~ (_ ∧ _) ∧ _; refine ⟨by ((repeat (first | exact trivial | refine ⟨rfl, ?_⟩)); (first | done | fail)), ?_⟩) | (refine ⟨by omega, ?_⟩) | (refine ⟨by (simp only [size_sfrom, ByteArray.size_extract, ByteArray.size_append, strOf_size, fixedL_length, lit_size, List.size_toArray, List.length_cons, List.length_nil, List.length_append, List.length_replicate]; omega), ?_⟩) | (refine ⟨0, rfl, ?_⟩) | (refine ⟨1, rfl, ?_⟩) | (refine ⟨2, rfl, ?_⟩) | (refine ⟨3, rfl, ?_⟩) | (refine ⟨4, rfl, ?_⟩) | (refine ⟨5, rfl, ?_⟩) | (refine cell_at1 (by assumption) ?_) | (refine cell_in1 (by omega) (fun x hx => ?_)) | fail)) <;> (try (conv => whnf))
  · (refine Ends.go (_) ?_ [] (Fit.q (by (repeat' (first | exact True.intro | (with_reducible exact rfl) | (guard_target =~ @Eq Nat _ _; first | exact rfl | omega) | (guard_target =~ List.map _ _ = []; exact rfl) | (fail) | (exact congrArg (Value.int _) (by omega)) | (exact covL_flat (flat_map (fun _ => rfl) _)) | (exact covL_flat flat_nil) | (refine covP_all ?_) | (refine covL_each ?_) | (refine ⟨?_, ?_⟩) | ((conv => whnf); (first | exact True.intro | (with_reducible exact rfl) | (guard_target =~ @Eq Nat _ _; first | exact rfl | omega) | (guard_target =~ List.map _ _ = []; exact rfl) | (fail) | (exact congrArg (Value.int _) (by omega)) | (exact covL_flat (flat_map (fun _ => rfl) _)) | (exact covL_flat flat_nil) | (refine covP_all ?_) | (refine covL_each ?_) | (refine ⟨?_, ?_⟩) | done)))); (first | done | fail)) (by rfl) (by rfl)))
    exact hsg
  · (refine Ends.go (_) ?_ [] (Fit.q (by (repeat' (first | exact True.intro | (with_reducible exact rfl) | (guard_target =~ @Eq Nat _ _; first | exact rfl | omega) | (guard_target =~ List.map _ _ = []; exact rfl) | (fail) | (exact congrArg (Value.int _) (by omega)) | (exact covL_flat (flat_map (fun _ => rfl) _)) | (exact covL_flat flat_nil) | (refine covP_all ?_) | (refine covL_each ?_) | (refine ⟨?_, ?_⟩) | ((conv => whnf); (first | exact True.intro | (with_reducible exact rfl) | (guard_target =~ @Eq Nat _ _; first | exact rfl | omega) | (guard_target =~ List.map _ _ = []; exact rfl) | (fail) | (exact congrArg (Value.int _) (by omega)) | (exact covL_flat (flat_map (fun _ => rfl) _)) | (exact covL_flat flat_nil) | (refine covP_all ?_) | (refine covL_each ?_) | (refine ⟨?_, ?_⟩) | done)))); (first | done | fail)) (by rfl) (by rfl)))
    rw [getB_none hN]
set_option maxRecDepth 100000 in
theorem mput_c (B : Bk) (n : Int) (d : ByteArray) : CallOb Tryz.prog 42 [mapV 0, iv n, .string d] (bookM B) 1 (fun v h m => ∃ x : Unit, True ∧ v = iv 0 ∧ h = bookM (putB B n d) ∧ m = 1) := by
  refine call_spec tabOk mixed Tryz.call42 Tryz.func42 rfl [] (fun _ : Unit => True) (fun x => iv 0) (fun _ => bookM (putB B n d)) (fun _ => 1) ?_ ?_
  · exact (Nat.le_of_ble_eq_true rfl)
  (repeat' ((try (conv => whnf)); first | (guard_target =~ LookOb _ _ _ _ _; refine look_book (fun sg hsg => ?_) (fun hN => ?_)) | (guard_target =~ ∃ ks' vs', PutOb _ _ _ _ ks' vs' ∧ _; refine ⟨_, _, put_book, ?_⟩) | (with_reducible refine chk_in (Nat.ble_eq_true_of_le (by omega)) ?_) | (with_reducible refine ifB_in ?_ ?_ <;> intro hb <;> (try simp only [decide_eq_true_eq, decide_eq_false_iff_not, Int.not_lt, Int.not_le, ne_eq, Decidable.not_not, Bool.not_eq_true', Bool.not_eq_false', gt_iff_lt, ge_iff_le] at hb) <;> (try (exfalso; omega))) | (with_reducible refine ⟨_, w64b _, ?_⟩) | (with_reducible refine ⟨_, w64 (by omega) (by omega), ?_⟩) | (with_reducible refine ⟨_, wu64 (by omega) (by omega), ?_⟩) | (with_reducible refine ⟨_, wu8 (by omega) (by omega), ?_⟩) | (with_reducible refine ⟨_, w64 (by (simp only [size_sfrom, ByteArray.size_extract, ByteArray.size_append, strOf_size, fixedL_length, lit_size, List.size_toArray, List.length_cons, List.length_nil, List.length_append, List.length_replicate]; omega)) (by (simp only [size_sfrom, ByteArray.size_extract, ByteArray.size_append, strOf_size, fixedL_length, lit_size, List.size_toArray, List.length_cons, List.length_nil, List.length_append, List.length_replicate]; omega)), ?_⟩) | (with_reducible refine ⟨_, rfl, ?_⟩) | (with_reducible refine ⟨rfl, ?_⟩) | (intro cap) | (with_reducible refine ⟨trivial, ?_⟩) | (guard_target =~ (planChk _ _ = true) ∧ _; refine ⟨by kernel_rfl, ?_⟩) | (guard_target =~ (_ ∧ _) ∧ _; refine ⟨by ((repeat (first | exact trivial | refine ⟨rfl, ?_⟩)); (first | done | fail)), ?_⟩) | (refine ⟨by omega, ?_⟩) | (refine ⟨by (simp only [size_sfrom, ByteArray.size_extract, ByteArray.size_append, strOf_size, fixedL_length, lit_size, List.size_toArray, List.length_cons, List.length_nil, List.length_append, List.length_replicate]; omega), ?_⟩) | (refine ⟨0, rfl, ?_⟩) | (refine ⟨1, rfl, ?_⟩) | (refine ⟨2, rfl, ?_⟩) | (refine ⟨3, rfl, ?_⟩) | (refine ⟨4, rfl, ?_⟩) | (refine ⟨5, rfl, ?_⟩) | (refine cell_at1 (by assumption) ?_) | (refine cell_in1 (by omega) (fun x hx => ?_)) | fail)) <;> (try (conv => whnf))
  (refine Ends.go (()) ?_ [] (Fit.q (by (repeat' (first | exact True.intro | (with_reducible exact rfl) | (guard_target =~ @Eq Nat _ _; first | exact rfl | omega) | (guard_target =~ List.map _ _ = []; exact rfl) | (fail) | (exact congrArg (Value.int _) (by omega)) | (exact covL_flat (flat_map (fun _ => rfl) _)) | (exact covL_flat flat_nil) | (refine covP_all ?_) | (refine covL_each ?_) | (refine ⟨?_, ?_⟩) | ((conv => whnf); (first | exact True.intro | (with_reducible exact rfl) | (guard_target =~ @Eq Nat _ _; first | exact rfl | omega) | (guard_target =~ List.map _ _ = []; exact rfl) | (fail) | (exact congrArg (Value.int _) (by omega)) | (exact covL_flat (flat_map (fun _ => rfl) _)) | (exact covL_flat flat_nil) | (refine covP_all ?_) | (refine covL_each ?_) | (refine ⟨?_, ?_⟩) | done)))); (first | done | fail)) (by rfl) (by rfl)))
  trivial
theorem methM_get : MethObM Tryz.prog 70 "Get" 38 := ⟨fun a w => by kernel_rfl⟩
theorem methM_put : MethObM Tryz.prog 70 "Put" 42 := ⟨fun a w => by kernel_rfl⟩
end Go.Proofs.YtpndofpcghfjdaaGreatDoor
