/- What a cell stands for; what chain's calls come to where the free pages are whole. -/
import Derived.Test.YtpndofpcghfjdaaGreatDoorChainFree
namespace Go.Proofs.YtpndofpcghfjdaaGreatDoor
abbrev All (B : Bk) : Prop := ∀ m, (getB B m).size = 232
theorem all_nil : All [] := fun m => by rw [getB_none (fun p hp => by cases hp)]; exact blankS_size
theorem all_put {B : Bk} {n : Int} {d : ByteArray} (h : All B) (hd : d.size = 232) : All (putB B n d) := fun m => by
  rw [getB_put]; split
  · exact hd
  · exact h m
theorem lay_all {left : Int} {B : Bk} {n next : Int} {l : List Int} {y : Int × Int × Bk} (h : LayD left B n next l y) (ha : All B) : All y.2.2 := by
  rcases h with ⟨_, rfl⟩ | ⟨h1, ⟨_, rfl⟩ | ⟨_, rfl⟩⟩
  · exact ha
  · exact ha
  · refine all_put ha ?_
    cases hf : fitT next l with
    | true => rw [(trS_yes hf).1, strOf_size]; unfold trunkL; rw [padL_length]
    | false => rw [(trS_no hf).2] at h1; exact absurd h1 (by decide)
theorem give_all {h : Hd} {left : Int} {B : Bk} {n : Int} {z : Gave} (H : GiveD h left B n z) (ha : All B) : All z.B := by
  have gl : ∀ {h' : Hd} {y : Int × Int × Bk}, GiveL h h' y z → All y.2.2 → All z.B := by
    rintro h' y (⟨_, rfl⟩ | ⟨_, rfl⟩) e <;> exact e
  rcases H with ⟨_, rfl⟩ | ⟨_, _, _, rfl⟩ | ⟨_, _, _, _, y, hY, hz⟩ | ⟨_, _, _, h0, tr, _, ⟨_, rfl⟩ | ⟨_, _, y, hY, hz⟩ | ⟨_, _, y, hY, hz⟩⟩
  · exact ha
  · exact ha
  · exact gl hz (lay_all hY ha)
  · exact ha
  · exact gl hz (lay_all hY ha)
  · exact gl hz (lay_all hY ha)
theorem take_all {h : Hd} {left : Int} {B : Bk} {z : Took} (H : TakeD h left B z) (ha : All B) : All z.B := by
  rcases H with ⟨_, _, rfl⟩ | ⟨_, _, rfl⟩ | ⟨h0, tr, _, ⟨_, rfl⟩ | ⟨_, _, rfl⟩ | ⟨_, _, k, l, y, _, _, _, hY, ⟨_, rfl⟩ | ⟨_, rfl⟩⟩ | ⟨_, _, _, ⟨_, rfl⟩ | ⟨_, rfl⟩⟩⟩
  · exact ha
  · exact ha
  · exact ha
  · exact ha
  · exact lay_all hY ha
  · exact lay_all hY ha
  · exact ha
  · exact ha
theorem new_all {lim left : Int} {h : Hd} {B : Bk} {z : SN} (H : SNewD lim h left B z) (ha : All B) : All z.B := by
  obtain ⟨b, hb, ⟨_, _, rfl⟩ | ⟨_, ⟨_, _, rfl⟩ | ⟨_, t, hT, ⟨_, rfl⟩ | ⟨_, rfl⟩⟩⟩⟩ := H
  · exact ha
  · exact ha
  · exact take_all hT ha
  · exact all_put (take_all hT ha) blankS_size
theorem put_all {h : Hd} {left : Int} {B : Bk} {n : Int} {d : ByteArray} {z : SN} (H : SPutD h left B n d z) (ha : All B) : All z.B := by
  obtain ⟨b, hb, ⟨_, rfl⟩ | ⟨_, _, rfl⟩ | ⟨_, hd, rfl⟩⟩ := H
  · exact ha
  · exact ha
  · exact all_put ha hd
theorem free_all {h : Hd} {left : Int} {B : Bk} {n : Int} {z : SN} (H : SFreeD h left B n z) (ha : All B) : All z.B := by
  obtain ⟨b, hb, ⟨_, rfl⟩ | ⟨_, g, hG, ⟨_, rfl⟩ | ⟨_, rfl⟩⟩⟩ := H
  · exact ha
  · exact give_all hG ha
  · exact give_all hG ha
theorem layw_all {lim : Int} {v : ByteArray} {k : Nat} {h : Hd} {B : Bk} {left n : Int} {z : CR} (H : LayW lim v k h B left n z) : All B → All z.B := by
  induction H with
  | done => exact fun ha => ha
  | new hN _ => exact fun ha => new_all hN ha
  | put hN _ hP _ => exact fun ha => put_all hP (new_all hN ha)
  | step hN _ hP _ _ ih => exact fun ha => ih (put_all hP (new_all hN ha))
theorem freew_all {h : Hd} {B : Bk} {l : List Int} {z : CR} (H : FreeW h B l z) : All B → All z.B := by
  induction H with
  | nil => exact fun ha => ha
  | err hF _ => exact fun ha => free_all hF ha
  | step hF _ _ ih => exact fun ha => ih (free_all hF ha)
def prts (v : ByteArray) : Nat := if v.size ≤ 40 then 0 else (v.size - 1) / 227 + 1
structure Stand (B : Bk) (v : ByteArray) (s : Int) (d : ByteArray) (n : Int) (qs : List Int) : Prop where
  le : v.size ≤ 5000
  len : qs.length = prts v
  s : s = v.size
  d : d = if v.size ≤ 40 then v else ⟨#[]⟩
  n : n = qs.headD 0
  chn : Chn B v 0 qs
theorem Stand.frame {B B' : Bk} {v : ByteArray} {s : Int} {d : ByteArray} {n : Int} {qs : List Int} (S : Stand B v s d n qs) (h : ∀ q ∈ qs, getB B' q = getB B q) : Stand B' v s d n qs := ⟨S.le, S.len, S.s, S.d, S.n, S.chn.frame h⟩
theorem Stand.ok {B : Bk} {v : ByteArray} {s : Int} {d : ByteArray} {n : Int} {qs : List Int} {P : Int} (S : Stand B v s d n qs) (hq : ∀ q ∈ qs, 1 ≤ q ∧ q < P) (hP : P ≤ 4096) : nd.OkCell (s, d, n) := by
  obtain ⟨h1, h2, rfl, rfl, rfl, _⟩ := S
  unfold prts at h2
  by_cases h : v.size ≤ 40
  · rw [if_pos h] at h2 ⊢
    refine .inl ⟨?_, ?_, ?_, ?_⟩
    · dsimp only; omega
    · dsimp only; omega
    · rfl
    · rw [List.eq_nil_of_length_eq_zero h2]; rfl
  · rw [if_neg h] at h2 ⊢
    match qs, h2 with
    | q :: r, _ =>
      have := hq q (by simp)
      refine .inr ⟨by dsimp only; omega, by dsimp only; omega, rfl, ?_⟩
      show 1 ≤ q ∧ q ≤ 4095
      omega
/-- Walking along a cell that stands. -/
theorem stand_walk {P : Int} {B : Bk} {v : ByteArray} {s : Int} {d : ByteArray} {n left : Int} {qs : List Int} {z : WR} (S : Stand B v s d n qs) (hq : ∀ q ∈ qs, 1 ≤ q ∧ q < P) (hP : P ≤ 4096) (hl : -1 ≤ left) (H : WalkC P B left s d n (nd.OkCell (s, d, n)) z) :
    (z.e = 0 ∧ z.d = bytesOf v ∧ z.l = qs ∧ -1 ≤ z.left ∧ (left = -1 → z.left = -1)) ∨ (z.e = 11 ∧ left ≠ -1 ∧ qs ≠ [] ∧ z.d = [] ∧ z.l = []) := by
  have ok := S.ok hq hP
  obtain ⟨h1, h2, rfl, rfl, rfl, hc⟩ := S
  unfold prts at h2
  rcases H with ⟨h, _⟩ | ⟨_, h0, rfl⟩ | ⟨_, h0, H⟩
  · exact absurd ok h
  · by_cases h : v.size ≤ 40
    · rw [if_pos h] at h2
      refine .inl ⟨rfl, ?_, (List.eq_nil_of_length_eq_zero h2).symm, hl, fun e => e⟩
      dsimp only; rw [if_pos h]
    · rw [if_neg h] at h2
      match qs, h2 with
      | q :: r, _ => have := hq q (by simp); have : q = 0 := h0; omega
  · by_cases h : v.size ≤ 40
    · rw [if_pos h] at h2
      rw [List.eq_nil_of_length_eq_zero h2] at h0; exact absurd rfl h0
    · rw [if_neg h] at h2
      have := walk_chn (i := 0) hP hc hq (by left; rw [h2]; omega) (by rw [h2]; omega) hl (by simpa using H)
      simpa using this
/-- What a call of Cell comes to. -/
theorem cell_sum {lim : Int} {h : Hd} {B : Bk} {ch : Ch} {left : Int} {v : ByteArray} {z : CZ} (H : CellD lim h B left v z) (I : ShI h B ch) (hlim : lim ≤ 4096) (hl : -1 ≤ left) (ha : All B) :
    (5000 < v.size ∧ z = ⟨0, ⟨#[]⟩, 0, 47, h, B, left⟩) ∨ (v.size ≤ 5000 ∧ All z.B ∧ ∃ qs ch', Went lim h B ch left qs z.h z.B ch' z.left ∧
      ((z.e = 0 ∧ Stand z.B v z.s z.d z.n qs) ∨ (z.s = 0 ∧ z.d = ⟨#[]⟩ ∧ z.n = 0 ∧ 40 < v.size ∧ ((z.e = 11 ∧ left ≠ -1) ∨ (z.e = 22 ∧ z.h.x = 0 ∧ lim ≤ z.h.p ∧ qs.length < prts v))))) := by
  rcases H with h1 | ⟨h1, rfl⟩ | ⟨h1, h2, y, hY, hz⟩
  · exact .inl h1
  · refine .inr ⟨by omega, ha, [], ch, Went.refl I hl, .inl ⟨rfl, ⟨by omega, ?_, rfl, ?_, rfl, trivial⟩⟩⟩
    · unfold prts; rw [if_pos h1]; rfl
    · rw [if_pos h1]
  · right
    have hp : prts v = (v.size - 1) / 227 + 1 := by unfold prts; rw [if_neg (by omega)]
    obtain ⟨qs, ch', W, hy⟩ := lay_sum hlim (ps := []) hY I hl (fun p hp => by cases hp) List.nodup_nil trivial rfl
    rw [List.append_nil] at hy
    have hya := layw_all hY ha
    rcases hz with ⟨e, rfl⟩ | ⟨e, rfl⟩
    · refine ⟨h2, hya, qs, ch', W, .inl ⟨rfl, ?_⟩⟩
      rcases hy with ⟨x1, x2, x3, x4⟩ | ⟨x1, _⟩ | ⟨x1, _⟩
      · exact ⟨h2, by rw [x2, hp], rfl, by rw [if_neg (by omega)], x4, x3⟩
      · omega
      · omega
    · refine ⟨h2, hya, qs, ch', W, .inr ⟨rfl, rfl, rfl, h1, ?_⟩⟩
      rcases hy with ⟨x1, _⟩ | ⟨x1, x2, _⟩ | ⟨x1, x2, x3, x4, x5⟩
      · exact absurd x1 e
      · exact .inl ⟨x1, x2⟩
      · exact .inr ⟨x1, x2, x3, by rw [hp]; exact x5⟩
theorem prts_le {v : ByteArray} (h : v.size ≤ 5000) : prts v ≤ 23 := by unfold prts; split <;> omega
theorem prts_pos {v : ByteArray} : 0 < prts v ↔ 40 < v.size := by unfold prts; split <;> omega
end Go.Proofs.YtpndofpcghfjdaaGreatDoor
namespace Go.Proofs.YtpndofpcghfjdaaGreatDoor
open Go.RowKit
set_option linter.unusedSimpArgs false
set_option linter.unusedVariables false
attribute [local irreducible] numOf fixedL bytesOf strOf strEq strLt sfrom padL headS trS trE fitT getB putB decTE decTN decTL pageS
def lbyte (i : Nat) : UInt8 := UInt8.ofNat (i % 251 + 1)
theorem lbyte_wrap {i : Nat} (h : i < 10000) : IntKind.u8.wrap (IntKind.i64.wrap (((i : Nat) : Int).tmod 251 + 1)) = ((lbyte i).toNat : Nat) := by
  have e : (((i : Nat) : Int)).tmod 251 = ((i % 251 : Nat) : Int) := by rw [Int.tmod_eq_emod_of_nonneg (by omega)]; omega
  have h2 : (lbyte i).toNat = i % 251 + 1 := by unfold lbyte; rw [UInt8.toNat_ofNat']; omega
  rw [e, ← w64 (by omega) (by omega), ← wu8 (by omega) (by omega), h2]; omega
structure Lng (n : Nat) (L : List UInt8) (i : Nat) : Prop where
  len : L.length = n
  at' : ∀ j, j < i → L[j]? = some (lbyte j)
theorem Lng.uniq {n : Nat} {L M : List UInt8} (h : Lng n L n) (k : Lng n M n) : L = M := by
  refine List.ext_getElem? fun j => ?_
  by_cases hj : j < n
  · rw [h.at' j hj, k.at' j hj]
  · rw [List.getElem?_eq_none (by rw [h.len]; omega), List.getElem?_eq_none (by rw [k.len]; omega)]
theorem Lng.set {n : Nat} {L : List UInt8} {i : Nat} (h : Lng n L i) (hi : i < n) : Lng n (L.set i (lbyte i)) (i + 1) := by
  refine ⟨by rw [List.length_set]; exact h.len, fun j hj => ?_⟩
  rw [List.getElem?_set]
  split
  · rename_i e; subst e; rw [if_pos (by rw [h.len]; exact hi)]
  · exact h.at' j (by omega)
theorem put_byte {L : List UInt8} {i : Nat} {b : UInt8} {x : Int} (hx : x = (b.toNat : Nat)) : putL (L.map byteV') (0 + i * 1) [.int .u8 x] = (L.set i b).map byteV' := by
  subst hx
  rw [List.map_set, Nat.zero_add, Nat.mul_one]; rfl
theorem row_take {L : List UInt8} {n ty c : Nat} (h : L.length = n) : List.take n (List.drop 0 (Itm.row ty 1 c (L.map byteV')).cells) = L.map byteV' := by
  rw [List.drop_zero]; exact List.take_of_length_le (by show (L.map byteV').length ≤ n; rw [List.length_map]; omega)
structure WL where
  i : Nat
  L : List UInt8
set_option maxRecDepth 100000 in
theorem long_c (n : Nat) (hn : 1 ≤ n ∧ n < 10000) :
    CallOb Tryz.prog 24 [iv n] [] 0 (fun v hh m => ∃ z : ByteArray, Lng n (bytesOf z) n ∧ v = .string z ∧ hh = [] ∧ m = 0) := by
  refine call_spec tabOk mixed Tryz.call24 Tryz.func24 rfl [] (fun z : ByteArray => Lng n (bytesOf z) n) (fun z => .string z) (fun _ => []) (fun _ => 0) ?_ ?_
  · exact (Nat.le_of_ble_eq_true rfl)
  (repeat' ((try (conv => whnf)); first | (with_reducible refine ⟨n, n, by omega, by omega, Nat.le_refl _, by omega, by omega, ?_⟩) | (guard_target =~ LoopOb _ _ _ _ _ _ _ _; refine loop_rule tabOk mixed [] 1 (fun k => [(0, iv n), (3, .slice (some ⟨0, 0, none⟩) n n), (4, iv (WL.i k : Nat))]) (fun k => [(0, .row 5 1 n ((WL.L k).map byteV'))]) (fun k => n - WL.i k) (fun k => WL.i k ≤ n ∧ Lng n (WL.L k) (WL.i k)) (⟨0, List.replicate n 0⟩) (⟨Nat.zero_le _, ⟨List.length_replicate, fun j hj => absurd hj (Nat.not_lt_zero _)⟩⟩) ⟨[(0, some 0)], Sub.q (by (repeat' (first | exact True.intro | (with_reducible exact rfl) | (guard_target =~ @Eq Nat _ _; first | exact rfl | omega) | (guard_target =~ List.map _ _ = []; exact rfl) | (first | exact congrArg (Value.int _) (by (try dsimp only); omega) | exact covL_of (noughts_cells _) (flat_map (fun _ => rfl) _) | exact covL_of (put_byte (lbyte_wrap (by omega))) (flat_map (fun _ => rfl) _)) | (exact congrArg (Value.int _) (by omega)) | (exact covL_flat (flat_map (fun _ => rfl) _)) | (exact covL_flat flat_nil) | (refine covP_all ?_) | (refine covL_each ?_) | (refine ⟨?_, ?_⟩) | ((conv => whnf); (first | exact True.intro | (with_reducible exact rfl) | (guard_target =~ @Eq Nat _ _; first | exact rfl | omega) | (guard_target =~ List.map _ _ = []; exact rfl) | (first | exact congrArg (Value.int _) (by (try dsimp only); omega) | exact covL_of (noughts_cells _) (flat_map (fun _ => rfl) _) | exact covL_of (put_byte (lbyte_wrap (by omega))) (flat_map (fun _ => rfl) _)) | (exact congrArg (Value.int _) (by omega)) | (exact covL_flat (flat_map (fun _ => rfl) _)) | (exact covL_flat flat_nil) | (refine covP_all ?_) | (refine covL_each ?_) | (refine ⟨?_, ?_⟩) | done)))); (first | done | fail)) (by rfl) (by rfl)⟩ (fun k hk => ?_)) | (rcases k with ⟨i, L⟩; dsimp only at hk ⊢) | (refine ⟨row_take hk.2.len, hk.2.len, ?_⟩) | (refine cell_in1 (by omega) (fun y hy => ?_)) | (with_reducible refine chk_in (Nat.ble_eq_true_of_le (by omega)) ?_) | (with_reducible refine ifB_in ?_ ?_ <;> intro hb <;> (try simp only [decide_eq_true_eq, decide_eq_false_iff_not, Int.not_lt, Int.not_le, ne_eq, Decidable.not_not, Bool.not_eq_true', Bool.not_eq_false', gt_iff_lt, ge_iff_le] at hb) <;> (try (exfalso; omega))) | (with_reducible refine ⟨_, w64b _, ?_⟩) | (with_reducible refine ⟨_, w64 (by omega) (by omega), ?_⟩) | (with_reducible refine ⟨_, wu64 (by omega) (by omega), ?_⟩) | (with_reducible refine ⟨_, wu8 (by omega) (by omega), ?_⟩) | (with_reducible refine ⟨_, w64 (by (simp only [size_sfrom, ByteArray.size_extract, ByteArray.size_append, strOf_size, fixedL_length, lit_size, List.size_toArray, List.length_cons, List.length_nil, List.length_append, List.length_replicate]; omega)) (by (simp only [size_sfrom, ByteArray.size_extract, ByteArray.size_append, strOf_size, fixedL_length, lit_size, List.size_toArray, List.length_cons, List.length_nil, List.length_append, List.length_replicate]; omega)), ?_⟩) | (with_reducible refine ⟨_, rfl, ?_⟩) | (with_reducible refine ⟨rfl, ?_⟩) | (intro cap) | (with_reducible refine ⟨trivial, ?_⟩) | (guard_target =~ (planChk _ _ = true) ∧ _; refine ⟨by kernel_rfl, ?_⟩) | (guard_target =~ (_ ∧ _) ∧ _; refine ⟨by ((repeat (first | exact trivial | refine ⟨rfl, ?_⟩)); (first | done | fail)), ?_⟩) | (refine ⟨by omega, ?_⟩) | (refine ⟨by (simp only [size_sfrom, ByteArray.size_extract, ByteArray.size_append, strOf_size, fixedL_length, lit_size, List.size_toArray, List.length_cons, List.length_nil, List.length_append, List.length_replicate]; omega), ?_⟩) | (refine ⟨0, rfl, ?_⟩) | (refine ⟨1, rfl, ?_⟩) | (refine ⟨2, rfl, ?_⟩) | (refine ⟨3, rfl, ?_⟩) | (refine ⟨4, rfl, ?_⟩) | (refine ⟨5, rfl, ?_⟩) | (refine cell_at1 (by assumption) ?_) | (refine cell_in1 (by omega) (fun x hx => ?_)) | fail)) <;> (try (conv => whnf))
  · (refine Again.go ((⟨i + 1, L.set i (lbyte i)⟩ : WL)) ?_ (by (try dsimp only); omega) [(0, some 0)] (Sub.q (by (repeat' (first | exact True.intro | (with_reducible exact rfl) | (guard_target =~ @Eq Nat _ _; first | exact rfl | omega) | (guard_target =~ List.map _ _ = []; exact rfl) | (first | exact congrArg (Value.int _) (by (try dsimp only); omega) | exact covL_of (noughts_cells _) (flat_map (fun _ => rfl) _) | exact covL_of (put_byte (lbyte_wrap (by omega))) (flat_map (fun _ => rfl) _)) | (exact congrArg (Value.int _) (by omega)) | (exact covL_flat (flat_map (fun _ => rfl) _)) | (exact covL_flat flat_nil) | (refine covP_all ?_) | (refine covL_each ?_) | (refine ⟨?_, ?_⟩) | ((conv => whnf); (first | exact True.intro | (with_reducible exact rfl) | (guard_target =~ @Eq Nat _ _; first | exact rfl | omega) | (guard_target =~ List.map _ _ = []; exact rfl) | (first | exact congrArg (Value.int _) (by (try dsimp only); omega) | exact covL_of (noughts_cells _) (flat_map (fun _ => rfl) _) | exact covL_of (put_byte (lbyte_wrap (by omega))) (flat_map (fun _ => rfl) _)) | (exact congrArg (Value.int _) (by omega)) | (exact covL_flat (flat_map (fun _ => rfl) _)) | (exact covL_flat flat_nil) | (refine covP_all ?_) | (refine covL_each ?_) | (refine ⟨?_, ?_⟩) | done)))); (first | done | fail)) (by rfl) (by rfl)))
    exact ⟨by dsimp only; omega, hk.2.set (by omega)⟩
  · exact absurd ((blt_len (l := L) (f := byteV') (i := i) (by rw [hk.2.len]; omega)).symm.trans hb) (by decide)
  · (refine Ends.go (strOf L) ?_ [] (Fit.q (by (repeat' (first | exact True.intro | (with_reducible exact rfl) | (guard_target =~ @Eq Nat _ _; first | exact rfl | omega) | (guard_target =~ List.map _ _ = []; exact rfl) | (first | exact congrArg (Value.int _) (by (try dsimp only); omega) | exact covL_of (noughts_cells _) (flat_map (fun _ => rfl) _) | exact covL_of (put_byte (lbyte_wrap (by omega))) (flat_map (fun _ => rfl) _)) | (exact congrArg (Value.int _) (by omega)) | (exact covL_flat (flat_map (fun _ => rfl) _)) | (exact covL_flat flat_nil) | (refine covP_all ?_) | (refine covL_each ?_) | (refine ⟨?_, ?_⟩) | ((conv => whnf); (first | exact True.intro | (with_reducible exact rfl) | (guard_target =~ @Eq Nat _ _; first | exact rfl | omega) | (guard_target =~ List.map _ _ = []; exact rfl) | (first | exact congrArg (Value.int _) (by (try dsimp only); omega) | exact covL_of (noughts_cells _) (flat_map (fun _ => rfl) _) | exact covL_of (put_byte (lbyte_wrap (by omega))) (flat_map (fun _ => rfl) _)) | (exact congrArg (Value.int _) (by omega)) | (exact covL_flat (flat_map (fun _ => rfl) _)) | (exact covL_flat flat_nil) | (refine covP_all ?_) | (refine covL_each ?_) | (refine ⟨?_, ?_⟩) | done)))); (first | done | fail)) (by rfl) (by rfl)))
    rw [bytesOf_strOf]
    have e : i = n := by omega
    subst e; exact hk.2
abbrev celv (s : Int) (d : ByteArray) (n : Int) : List Value := [.int .i64 s, .string d, .int .i64 n]
def eqCel (s : Int) (d : ByteArray) (n s' : Int) (d' : ByteArray) (n' : Int) : Bool := (decide (s = s') && strEq d d') && decide (n = n')
theorem eqCel_iff {s : Int} {d : ByteArray} {n s' : Int} {d' : ByteArray} {n' : Int} : eqCel s d n s' d' n' = true ↔ s = s' ∧ d = d' ∧ n = n' := by
  simp [eqCel, strEq_true, bytesOf_inj, and_assoc]
theorem eqIn_cel (k : Nat) (s : Int) (d : ByteArray) (n s' : Int) (d' : ByteArray) (n' : Int) (w : World) : (Op.equalIn (k + 2) 24 (.agg (celv s d n).toArray) (.agg (celv s' d' n').toArray)).run Tryz.prog w = .ok (eqCel s d n s' d' n') w := by
  rw [run_equalIn_struct w (k + 1) 24 _ _ (by kernel_rfl) Tryz.stoodInHeld24]
  simp [Op.eqFields, go_sem, eqCel, strEq, bytesOf, ByteArray.toList_eq, celv]
  (repeat' split) <;> simp_all
theorem ob_cel (s : Int) (d : ByteArray) (n s' : Int) (d' : ByteArray) (n' : Int) : EqOb Tryz.prog 24 (.agg (celv s d n).toArray) (.agg (celv s' d' n').toArray) (eqCel s d n s' d' n') where
  fx := rfl
  fy := rfl
  eql w x y := by
    unfold binRun
    rw [Sem.run_bind, run_eqGuard_agg (hm := Tryz.eqGuardType24), Result.andThen_ok, run_eql_struct, eqIn_cel 9998]; rfl
  neq w x y := by
    unfold binRun
    rw [Sem.run_bind, run_eqGuard_agg (hm := Tryz.eqGuardType24), Result.andThen_ok, run_neq_struct, eqIn_cel 9998]; rfl
end Go.Proofs.YtpndofpcghfjdaaGreatDoor
namespace Go.Proofs.YtpndofpcghfjdaaGreatDoor
open Go.RowKit
set_option linter.unusedSimpArgs false
set_option linter.unusedVariables false
theorem CallOb.mono {P : Program} {f : FuncId} {args : List Value} {h : HP} {n : Nat} {K K' : Value → HP → Nat → Prop} (C : CallOb P f args h n K) (hk : ∀ v hh m, K v hh m → K' v hh m) : CallOb P f args h n K' :=
  ⟨C.fn, fun F B w0 m w cs H hc => (C.run F B w0 m w cs H hc).mono fun e w' ⟨m', v, c, h', n', he, hle, hv, H', hp⟩ => ⟨m', v, c, h', n', he, hle, hv, H', hk _ _ _ hp⟩⟩
/-- A law whose arguments lie not in memory. -/
theorem law_flat {P : Program} {f : FuncId} {args : List Value} {K : Value → HP → Nat → Prop} (C : CallOb P f args [] 0 K) (ha : args.all flatR = true) (hk : ∀ v hh m, K v hh m → v = .bool true) (w : World) :
    Calls P f args.toArray w fun e w' => e = .returned (.bool true) ∧ Below w.heap.size w w' :=
  (C.run _ _ _ _ w args (HRel.start w) (LR.flat ha)).mono fun e w' ⟨m', v, c, h', n', he, _, hv, H, hp⟩ => by
    have := hk _ _ _ hp
    subst this
    rw [he, hv.bool]
    exact ⟨rfl, H.keep.below⟩
structure CellS (lim : Int) (h : Hd) (B : Bk) (ch : Ch) (left : Int) (v : ByteArray) (z : CZ) (qs : List Int) (ch' : Ch) : Prop where
  all : All z.B
  went : Went lim h B ch left qs z.h z.B ch' z.left
  long : 5000 < v.size → z.e = 47 ∧ z.s = 0 ∧ z.d = ⟨#[]⟩ ∧ z.n = 0
  st : v.size ≤ 5000 → z.e = 0 → Stand z.B v z.s z.d z.n qs
  bad : v.size ≤ 5000 → z.e ≠ 0 → z.s = 0 ∧ z.d = ⟨#[]⟩ ∧ z.n = 0 ∧ 40 < v.size ∧ ((z.e = 11 ∧ left ≠ -1) ∨ (z.e = 22 ∧ z.h.x = 0 ∧ lim ≤ z.h.p ∧ qs.length < prts v))
theorem gcell_c (lim : Int) (h : Hd) (B : Bk) (ch : Ch) (left : Int) (v : ByteArray) (I : ShI h B ch) (ha : All B) (hlim : lim ≤ 4096) (hl : -1 ≤ left ∧ left ≤ 9223372036854775807) (hs : v.size < 9223372036854775807) :
    CallOb Tryz.prog 13 [shV 0, .string v] (shG lim h B left) 2 (fun w hh m => ∃ z : CZ × List Int × Ch, CellS lim h B ch left v z.1 z.2.1 z.2.2 ∧ w = .tuple #[.agg #[iv z.1.s, .string z.1.d, iv z.1.n], iv z.1.e] ∧ hh = shG lim z.1.h z.1.B z.1.left ∧ m = 2) := by
  refine (cell_c lim h B left v hlim ⟨ch, I⟩ hl hs).mono ?_
  rintro w hh k ⟨z, hz, rfl, rfl, rfl⟩
  rcases cell_sum hz I hlim hl.1 ha with ⟨h1, rfl⟩ | ⟨h1, h2, qs, ch', W, h3⟩
  · exact ⟨(_, [], ch), ⟨ha, Went.refl I hl.1, fun _ => ⟨rfl, rfl, rfl, rfl⟩, fun h => absurd h (by omega), fun h => absurd h (by omega)⟩, rfl, rfl, rfl⟩
  · refine ⟨(z, qs, ch'), ⟨h2, W, fun h => absurd h (by omega), fun _ e => ?_, fun _ e => ?_⟩, rfl, rfl, rfl⟩
    · rcases h3 with ⟨_, S⟩ | ⟨_, _, _, _, ⟨e2, _⟩ | ⟨e2, _⟩⟩
      · exact S
      · rw [e] at e2; exact absurd e2 (by decide)
      · rw [e] at e2; exact absurd e2 (by decide)
    · rcases h3 with ⟨e2, _⟩ | h3
      · exact absurd e2 e
      · exact h3
theorem glong_c (lim : Int) (h : Hd) (B : Bk) (ch : Ch) (left : Int) (v : ByteArray) (I : ShI h B ch) (hlim : lim ≤ 4096) (hl : -1 ≤ left ∧ left ≤ 9223372036854775807) (hs : 5000 < v.size ∧ v.size < 9223372036854775807) :
    CallOb Tryz.prog 13 [shV 0, .string v] (shG lim h B left) 2 (fun w hh m => ∃ z : Int, z = 47 ∧ w = .tuple #[.agg #[iv 0, .string ⟨#[]⟩, iv 0], iv z] ∧ hh = shG lim h B left ∧ m = 2) := by
  refine (cell_c lim h B left v hlim ⟨ch, I⟩ hl hs.2).mono ?_
  rintro w hh k ⟨z, hz, rfl, rfl, rfl⟩
  rcases hz with ⟨_, rfl⟩ | ⟨h1, _⟩ | ⟨_, h1, _⟩
  · exact ⟨47, rfl, rfl, rfl, rfl⟩
  · omega
  · omega
theorem gval_c (lim : Int) (h : Hd) (B : Bk) (left s : Int) (d : ByteArray) (n : Int) (v : ByteArray) (qs : List Int) (hp : h.p ≤ 4096) (ha : All B) (S : Stand B v s d n qs) (hq : ∀ q ∈ qs, 1 ≤ q ∧ q < h.p) (hl : -1 ≤ left ∧ left ≤ 9223372036854775807) :
    CallOb Tryz.prog 9 [shV 0, .agg #[iv s, .string d, iv n]] (shG lim h B left) 2 (fun w hh m => ∃ z : ByteArray × Int × Int, ((z.2.1 = 0 ∧ z.1 = v ∧ (left = -1 → z.2.2 = -1)) ∨ (z.2.1 = 11 ∧ left ≠ -1 ∧ qs ≠ [] ∧ z.1 = ⟨#[]⟩)) ∧ w = .tuple #[.string z.1, iv z.2.1] ∧ hh = shG lim h B z.2.2 ∧ m = 2) := by
  refine (value_c lim h B left s d n hl ha).mono ?_
  rintro w hh k ⟨⟨z, zs⟩, ⟨hz, hzs⟩, rfl, rfl, rfl⟩
  dsimp only at hz hzs
  refine ⟨(zs, z.e, z.left), ?_, rfl, rfl, rfl⟩
  rcases stand_walk S hq hp hl.1 hz with ⟨x1, x2, x3, x4, x5⟩ | ⟨x1, x2, x3, x4, x5⟩
  · exact .inl ⟨x1, by dsimp only; rw [hzs, x2, strOf_bytesOf], x5⟩
  · exact .inr ⟨x1, x2, x3, by dsimp only; rw [hzs, x4]; rfl⟩
/-- A cell that can not be. -/
theorem gbad_c (lim : Int) (h : Hd) (B : Bk) (s : Int) (d : ByteArray) (n : Int) (ha : All B) (hb : ¬ nd.OkCell (s, d, n)) :
    CallOb Tryz.prog 9 [shV 0, .agg #[iv s, .string d, iv n]] (shG lim h B (-1)) 2 (fun w hh m => ∃ z : ByteArray × Int, z.2 = 1 ∧ w = .tuple #[.string z.1, iv z.2] ∧ hh = shG lim h B (-1) ∧ m = 2) := by
  refine (value_c lim h B (-1) s d n (by omega) ha).mono ?_
  rintro w hh k ⟨⟨z, zs⟩, ⟨hz, hzs⟩, rfl, rfl, rfl⟩
  dsimp only at hz
  rcases hz with ⟨_, rfl⟩ | ⟨h, _⟩ | ⟨h, _⟩
  · exact ⟨(zs, 1), rfl, rfl, rfl, rfl⟩
  · exact absurd h hb
  · exact absurd h hb
theorem glist_c (lim : Int) (h : Hd) (B : Bk) (s : Int) (d : ByteArray) (n : Int) (v : ByteArray) (qs : List Int) (hp : h.p ≤ 4096) (ha : All B) (S : Stand B v s d n qs) (hq : ∀ q ∈ qs, 1 ≤ q ∧ q < h.p) :
    CallOb Tryz.prog 10 [shV 0, .agg #[iv s, .string d, iv n]] (shG lim h B (-1)) 2 (fun w hh m => ∃ z : Int × Nat, z.1 = 0 ∧ w = .tuple #[mslice 2 qs.length z.2, iv z.1] ∧ hh = shG lim h B (-1) ++ [(2, .lst 3 1 z.2 (qs.map iv))] ∧ m = 3) := by
  refine (list_c lim h B (-1) s d n (by omega) ha).mono ?_
  rintro w hh k ⟨⟨z, zc⟩, hz, rfl, rfl, rfl⟩
  dsimp only at hz
  rcases stand_walk S hq hp (by omega) hz with ⟨x1, x2, x3, x4, x5⟩ | ⟨x1, x2, _⟩
  · exact ⟨(0, zc), rfl, by dsimp only; rw [x1, x3], by dsimp only; rw [x3, x5 rfl], rfl⟩
  · exact absurd rfl x2
structure FreeS (h : Hd) (B : Bk) (ch : Ch) (qs : List Int) (z : CR) (ch' : Ch) : Prop where
  e : z.e = 0
  left : z.left = -1
  inv : ShI z.h z.B ch'
  all : All z.B
  p : z.h.p = h.p
  x : z.h.x = h.x + qs.length
  frame : ∀ m, m ∉ fr ch → m ∉ qs → getB z.B m = getB B m
  free : ∀ m, m ∈ fr ch' → m ∈ fr ch ∨ m ∈ qs
theorem gfrees_c (lim : Int) (h : Hd) (B : Bk) (ch : Ch) (s : Int) (d : ByteArray) (n : Int) (v : ByteArray) (qs : List Int) (I : ShI h B ch) (ha : All B) (S : Stand B v s d n qs) (hu : InUse h.p ch qs) (hn : qs.Nodup) :
    CallOb Tryz.prog 16 [shV 0, .agg #[iv s, .string d, iv n]] (shG lim h B (-1)) 2 (fun w hh m => ∃ z : CR × Ch, FreeS h B ch qs z.1 z.2 ∧ w = iv z.1.e ∧ hh = shG lim z.1.h z.1.B (-1) ∧ m = 2) := by
  have hq : ∀ q ∈ qs, 1 ≤ q ∧ q < h.p := fun q hq => ⟨(hu q hq).1, (hu q hq).2.1⟩
  have hp := I.bnd.2.2.2
  have key : ∀ w : WR, WalkC h.p B (-1) s d n (nd.OkCell (s, d, n)) w → w.e = 0 ∧ w.l = qs := fun w hw => by
    rcases stand_walk S hq hp (by omega) hw with ⟨x1, x2, x3, x4, x5⟩ | ⟨x1, x2, _⟩
    · exact ⟨x1, x3⟩
    · exact absurd rfl x2
  have hlen : qs.length < 9223372036854775807 := by have := prts_le S.le; rw [S.len]; omega
  refine (free_c lim h B ch s d n I ha (fun w hw _ => by rw [(key w hw).2]; exact ⟨hu, hn, hlen⟩)).mono ?_
  rintro w hh k ⟨z, ⟨w, hw, hz⟩, rfl, rfl, rfl⟩
  obtain ⟨e1, e2⟩ := key w hw
  rcases hz with ⟨e, _⟩ | ⟨_, hF⟩
  · exact absurd e1 e
  · rw [e2] at hF
    obtain ⟨ch', x1, x2, x3, x4, x5, x6, x7⟩ := free_sum hF I hu hn
    exact ⟨(z, ch'), ⟨x1, x2, x3, freew_all hF ha, x4, x5, x6, x7⟩, rfl, by rw [x2], rfl⟩
theorem CellS.short {lim : Int} {h : Hd} {B : Bk} {ch : Ch} {left : Int} {v : ByteArray} {z : CZ} {qs : List Int} {ch' : Ch} (C : CellS lim h B ch left v z qs ch') (hv : v.size ≤ 40) : z.e = 0 ∧ z.s = v.size ∧ z.d = v ∧ z.n = 0 ∧ qs = [] := by
  by_cases e : z.e = 0
  · have S := C.st (by omega) e
    have hl := S.len
    unfold prts at hl
    rw [if_pos hv] at hl
    have hq := List.eq_nil_of_length_eq_zero hl
    exact ⟨e, S.s, by rw [S.d, if_pos hv], by rw [S.n, hq]; rfl, hq⟩
  · have := C.bad (by omega) e; omega
/-- On a shelf that nothing arms and that has room. -/
theorem CellS.room {lim : Int} {h : Hd} {B : Bk} {ch : Ch} {v : ByteArray} {z : CZ} {qs : List Int} {ch' : Ch} (C : CellS lim h B ch (-1) v z qs ch') (hv : v.size ≤ 5000) (hr : h.p - h.x + prts v ≤ lim) : z.e = 0 := by
  by_cases e : z.e = 0
  · exact e
  · have b := (C.bad hv e).2.2.2.2
    have := C.went.count
    rcases b with ⟨_, b⟩ | ⟨_, b1, b2, b3⟩
    · exact absurd rfl b
    · omega
theorem CellS.left {lim : Int} {h : Hd} {B : Bk} {ch : Ch} {v : ByteArray} {z : CZ} {qs : List Int} {ch' : Ch} (C : CellS lim h B ch (-1) v z qs ch') : z.left = -1 := C.went.left.2.2 rfl
end Go.Proofs.YtpndofpcghfjdaaGreatDoor
