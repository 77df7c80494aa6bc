/- Values laid one behind the other, in plain words. No program in sight. -/
import Derived.Test.YtpndofpcghfjdaaGreatDoorChainAwake
namespace Go.Proofs.YtpndofpcghfjdaaGreatDoor
/-- A cell that was laid: its fields, its pages. -/
structure Ent where
  s : Int
  d : ByteArray
  n : Int
  qs : List Int
abbrev Ent.v (c : Ent) : List Value := celv c.s c.d c.n
def pagesOf (cs : List Ent) : List Int := cs.flatMap Ent.qs
theorem pagesOf_add (cs : List Ent) (c : Ent) : pagesOf (cs ++ [c]) = pagesOf cs ++ c.qs := by unfold pagesOf; simp
structure Held (h : Hd) (B : Bk) (ch : Ch) (L : List ByteArray) (cs : List Ent) : Prop where
  inv : ShI h B ch
  all : All B
  at' : ∀ (j : Nat) (c : Ent), cs[j]? = some c → ∃ v, L[j]? = some v ∧ Stand B v c.s c.d c.n c.qs
  use : InUse h.p ch (pagesOf cs)
  nodup : (pagesOf cs).Nodup
  count : h.p - h.x = 1 + (pagesOf cs).length
  few : (pagesOf cs).length ≤ 23 * cs.length
theorem Held.start {h : Hd} {L : List ByteArray} (I : ShI h [] []) (h1 : h.p = 1) (h2 : h.x = 0) : Held h [] [] L [] :=
  ⟨I, all_nil, (fun j c e => by simp at e), (fun p hp => by cases hp), List.nodup_nil, by simp [pagesOf]; omega, by simp [pagesOf]⟩
theorem mem_pages {cs : List Ent} {j : Nat} {c : Ent} {q : Int} (h : cs[j]? = some c) (hq : q ∈ c.qs) : q ∈ pagesOf cs := List.mem_flatMap.2 ⟨c, List.mem_of_getElem? h, hq⟩
theorem Held.add {lim : Int} {h : Hd} {B : Bk} {ch : Ch} {L : List ByteArray} {cs : List Ent} {v : ByteArray} {z : CZ} {qs : List Int} {ch' : Ch} (H : Held h B ch L cs) (C : CellS lim h B ch (-1) v z qs ch') (hv : v.size ≤ 5000) (hl : L[cs.length]? = some v) (h6 : cs.length < 6) (hlim : lim = 300) :
    z.e = 0 ∧ z.left = -1 ∧ Held z.h z.B ch' L (cs ++ [⟨z.s, z.d, z.n, qs⟩]) := by
  have hfew := H.few
  have hpl := prts_le hv
  have hcount := H.count
  have e := C.room hv (by omega)
  have S := C.st hv e
  have W := C.went
  refine ⟨e, C.left, W.inv, C.all, ?_, ?_, ?_, ?_, ?_⟩
  · intro j c hj
    rcases Nat.lt_or_ge j cs.length with hlt | hge
    · rw [List.getElem?_append_left hlt] at hj
      obtain ⟨u, hu, Su⟩ := H.at' j c hj
      refine ⟨u, hu, Su.frame fun q hq => ?_⟩
      have x := H.use q (mem_pages hj hq)
      exact W.frame q x.1 x.2.1 x.2.2
    · rw [List.getElem?_append_right hge] at hj
      have hz : j - cs.length = 0 := by
        rcases Nat.eq_zero_or_pos (j - cs.length) with e | e
        · exact e
        · rw [List.getElem?_eq_none (by simp; omega)] at hj; cases hj
      rw [hz] at hj
      cases hj
      have : j = cs.length := by omega
      subst this
      exact ⟨v, hl, S⟩
  · rw [pagesOf_add]
    intro q hq
    rcases List.mem_append.1 hq with hq | hq
    · have x := H.use q hq
      have g := W.grow
      exact ⟨x.1, by omega, fun e => x.2.2 (W.free q e)⟩
    · have x := W.news q hq
      exact ⟨x.1, x.2.1, x.2.2.1⟩
  · rw [pagesOf_add]
    refine List.nodup_append.2 ⟨H.nodup, W.nodup, ?_⟩
    intro a ha b hb e
    subst e
    have x := H.use a ha
    rcases (W.news a hb).2.2.2 with e | e
    · exact x.2.2 e
    · omega
  · have := W.count
    rw [pagesOf_add, List.length_append]; show z.h.p - z.h.x = 1 + (((pagesOf cs).length + qs.length : Nat) : Int); omega
  · have := S.len
    rw [pagesOf_add, List.length_append, List.length_append, List.length_singleton]
    dsimp only
    omega
theorem Held.rng {h : Hd} {B : Bk} {ch : Ch} {L : List ByteArray} {cs : List Ent} {k : Nat} {c : Ent} (H : Held h B ch L cs) (hk : cs[k]? = some c) : InUse h.p ch c.qs := fun q hq => H.use q (mem_pages hk hq)
theorem Held.nod {h : Hd} {B : Bk} {ch : Ch} {L : List ByteArray} {cs : List Ent} {k : Nat} {c : Ent} (H : Held h B ch L cs) (hk : cs[k]? = some c) : c.qs.Nodup := by
  have key : ∀ {cs : List Ent} {k : Nat}, (pagesOf cs).Nodup → cs[k]? = some c → c.qs.Nodup := by
    intro cs
    induction cs with
    | nil => intro k _ h; simp at h
    | cons a cs ih =>
      intro k hn h
      have hn' : (a.qs ++ pagesOf cs).Nodup := hn
      obtain ⟨n1, n2, _⟩ := List.nodup_append.1 hn'
      match k with
      | 0 => cases h; exact n1
      | k + 1 => exact ih n2 h
  exact key H.nodup hk
/-- What is left where one value is freed. -/
structure Rest (h h' : Hd) (B' : Bk) (ch' : Ch) (L : List ByteArray) (cs : List Ent) (k : Nat) (qs : List Int) : Prop where
  inv : ShI h' B' ch'
  all : All B'
  p : h'.p = h.p
  x : h'.x = h.x + qs.length
  at' : ∀ (j : Nat) (c : Ent), j ≠ k → cs[j]? = some c → ∃ v, L[j]? = some v ∧ Stand B' v c.s c.d c.n c.qs ∧ ∀ q ∈ c.qs, 1 ≤ q ∧ q < h'.p
theorem flat_disj : ∀ {cs : List Ent} {j k : Nat} {c e : Ent}, (pagesOf cs).Nodup → cs[j]? = some c → cs[k]? = some e → j ≠ k → ∀ q ∈ c.qs, q ∉ e.qs
  | [], j, k, c, e, _, hj, _, _ => by simp at hj
  | a :: cs, j, k, c, e, hn, hj, hk, hjk => by
    have hn' : (a.qs ++ pagesOf cs).Nodup := hn
    obtain ⟨n1, n2, n3⟩ := List.nodup_append.1 hn'
    intro q hq hq'
    match j, k with
    | 0, 0 => exact hjk rfl
    | 0, k + 1 => cases hj; exact n3 q hq q (mem_pages (cs := cs) hk hq') rfl
    | j + 1, 0 => cases hk; exact n3 q hq' q (mem_pages (cs := cs) hj hq) rfl
    | j + 1, k + 1 => exact flat_disj n2 hj hk (fun e => hjk (by rw [e])) q hq hq'
theorem Held.freed {h : Hd} {B : Bk} {ch : Ch} {L : List ByteArray} {cs : List Ent} {k : Nat} {c : Ent} {z : CR} {ch' : Ch} (H : Held h B ch L cs) (hk : cs[k]? = some c) (F : FreeS h B ch c.qs z ch') : Rest h z.h z.B ch' L cs k c.qs := by
  refine ⟨F.inv, F.all, F.p, F.x, fun j e hjk hj => ?_⟩
  obtain ⟨v, hv, S⟩ := H.at' j e hj
  refine ⟨v, hv, S.frame fun q hq => ?_, fun q hq => ?_⟩
  · have x := H.use q (mem_pages hj hq)
    exact F.frame q x.2.2 (flat_disj H.nodup hj hk hjk q hq)
  · have x := H.use q (mem_pages hj hq)
    rw [F.p]; exact ⟨x.1, x.2.1⟩
/-- Laid again. -/
structure Again2 (h : Hd) (v : ByteArray) (z : CZ) (qs : List Int) : Prop where
  e : z.e = 0
  left : z.left = -1
  p : z.h.p = h.p
  x : z.h.x = h.x
  le : z.h.p ≤ 4096
  all : All z.B
  st : Stand z.B v z.s z.d z.n qs
  rng : ∀ q ∈ qs, 1 ≤ q ∧ q < z.h.p
theorem Rest.again {lim : Int} {h h' : Hd} {B B' : Bk} {ch ch' ch2 : Ch} {L : List ByteArray} {cs : List Ent} {k : Nat} {c : Ent} {v : ByteArray} {z : CZ} {qs : List Int} (H : Held h B ch L cs) (hk : cs[k]? = some c) (hv : L[k]? = some v) (R : Rest h h' B' ch' L cs k c.qs) (C : CellS lim h' B' ch' (-1) v z qs ch2) (h6 : cs.length ≤ 6) (hlim : lim = 300) : Again2 h v z qs := by
  obtain ⟨v', hv', S⟩ := H.at' k c hk
  rw [hv] at hv'
  cases hv'
  have hle := S.le
  have hpl := prts_le hle
  have hfew := H.few
  have hcount := H.count
  have rp := R.p
  have rx := R.x
  have hl := S.len
  have bd := H.inv.bnd
  have e := C.room hle (by omega)
  have S2 := C.st hle e
  have W := C.went
  have wc := W.count
  have wg := W.grow
  have hl2 := S2.len
  have bd2 := W.inv.bnd
  refine ⟨e, C.left, by omega, by omega, by omega, C.all, S2, fun q hq => ⟨(W.news q hq).1, (W.news q hq).2.1⟩⟩
end Go.Proofs.YtpndofpcghfjdaaGreatDoor
namespace Go.Proofs.YtpndofpcghfjdaaGreatDoor
open Go.RowKit
set_option linter.unusedSimpArgs false
set_option linter.unusedVariables false
attribute [local irreducible] numOf fixedL bytesOf strOf strEq strLt sfrom padL headS trS trE fitT getB putB decTE decTN decTL pageS prts
set_option maxRecDepth 100000 in
theorem celll_c (lim : Int) (h : Hd) (B : Bk) (left : Int) (v : ByteArray) (hs : 5000 < v.size) :
    CallOb Tryz.prog 13 [shV 0, .string v] (shG lim h B left) 2 (fun w hh m => ∃ z : Int, z = 47 ∧ w = .tuple #[.agg #[iv 0, .string ⟨#[]⟩, iv 0], iv z] ∧ hh = shG lim h B left ∧ m = 2) := by
  refine call_spec tabOk mixed Tryz.call13 Tryz.func13 rfl [] (fun z : Int => z = 47) (fun z => .tuple #[.agg #[iv 0, .string ⟨#[]⟩, iv 0], iv z]) (fun _ => shG lim h B left) (fun _ => 2) ?_ ?_
  · exact (Nat.le_of_ble_eq_true rfl)
  (repeat' ((try (conv => whnf)); first | (exfalso; omega) | (with_reducible refine chk_in (Nat.ble_eq_true_of_le (by omega)) ?_) | (with_reducible refine ifB_in ?_ ?_ <;> intro hb <;> (try simp only [decide_eq_true_eq, decide_eq_false_iff_not, Int.not_lt, Int.not_le, ne_eq, Decidable.not_not, Bool.not_eq_true', Bool.not_eq_false', gt_iff_lt, ge_iff_le] at hb) <;> (try (exfalso; omega))) | (with_reducible refine ⟨_, w64b _, ?_⟩) | (with_reducible refine ⟨_, w64 (by omega) (by omega), ?_⟩) | (with_reducible refine ⟨_, wu64 (by omega) (by omega), ?_⟩) | (with_reducible refine ⟨_, wu8 (by omega) (by omega), ?_⟩) | (with_reducible refine ⟨_, w64 (by (simp only [size_sfrom, ByteArray.size_extract, ByteArray.size_append, strOf_size, fixedL_length, lit_size, List.size_toArray, List.length_cons, List.length_nil, List.length_append, List.length_replicate]; omega)) (by (simp only [size_sfrom, ByteArray.size_extract, ByteArray.size_append, strOf_size, fixedL_length, lit_size, List.size_toArray, List.length_cons, List.length_nil, List.length_append, List.length_replicate]; omega)), ?_⟩) | (with_reducible refine ⟨_, rfl, ?_⟩) | (with_reducible refine ⟨rfl, ?_⟩) | (intro cap) | (with_reducible refine ⟨trivial, ?_⟩) | (guard_target =~ (planChk _ _ = true) ∧ _; refine ⟨by kernel_rfl, ?_⟩) | (guard_target =~ (_ ∧ _) ∧ _; refine ⟨by ((repeat (first | exact trivial | refine ⟨rfl, ?_⟩)); (first | done | fail)), ?_⟩) | (refine ⟨by omega, ?_⟩) | (refine ⟨by (simp only [size_sfrom, ByteArray.size_extract, ByteArray.size_append, strOf_size, fixedL_length, lit_size, List.size_toArray, List.length_cons, List.length_nil, List.length_append, List.length_replicate]; omega), ?_⟩) | (refine ⟨0, rfl, ?_⟩) | (refine ⟨1, rfl, ?_⟩) | (refine ⟨2, rfl, ?_⟩) | (refine ⟨3, rfl, ?_⟩) | (refine ⟨4, rfl, ?_⟩) | (refine ⟨5, rfl, ?_⟩) | (refine cell_at1 (by assumption) ?_) | (refine cell_in1 (by omega) (fun x hx => ?_)) | fail)) <;> (try (conv => whnf))
  all_goals first | (exfalso; omega) | ((refine Ends.go (47) ?_ [] (Fit.q (by (repeat' (first | exact True.intro | (with_reducible exact rfl) | (guard_target =~ @Eq Nat _ _; first | exact rfl | omega) | (guard_target =~ List.map _ _ = []; exact rfl) | (first | exact congrArg (Value.int _) (by (try dsimp only); omega) | (guard_target =~ @Eq (List Value) _ _; exact rfl)) | (exact congrArg (Value.int _) (by omega)) | (exact covL_flat (flat_map (fun _ => rfl) _)) | (exact covL_flat flat_nil) | (refine covP_all ?_) | (refine covL_each ?_) | (refine ⟨?_, ?_⟩) | ((conv => whnf); (first | exact True.intro | (with_reducible exact rfl) | (guard_target =~ @Eq Nat _ _; first | exact rfl | omega) | (guard_target =~ List.map _ _ = []; exact rfl) | (first | exact congrArg (Value.int _) (by (try dsimp only); omega) | (guard_target =~ @Eq (List Value) _ _; exact rfl)) | (exact congrArg (Value.int _) (by omega)) | (exact covL_flat (flat_map (fun _ => rfl) _)) | (exact covL_flat flat_nil) | (refine covP_all ?_) | (refine covL_each ?_) | (refine ⟨?_, ?_⟩) | done)))); (first | done | fail)) (by rfl) (by rfl))); rfl)
theorem gcellu_c (lim : Int) (h : Hd) (B : Bk) (ch : Ch) (left : Int) (v : ByteArray) (I : ShI h B ch) (ha : All B) (hlim : lim ≤ 4096) (hl : -1 ≤ left ∧ left ≤ 9223372036854775807) :
    CallOb Tryz.prog 13 [shV 0, .string v] (shG lim h B left) 2 (fun w hh m => ∃ z : CZ × List Int × Ch, CellS lim h B ch left v z.1 z.2.1 z.2.2 ∧ w = .tuple #[.agg #[iv z.1.s, .string z.1.d, iv z.1.n], iv z.1.e] ∧ hh = shG lim z.1.h z.1.B z.1.left ∧ m = 2) := by
  rcases Nat.lt_or_ge 5000 v.size with h5 | h5
  · refine (celll_c lim h B left v h5).mono ?_
    rintro w hh k ⟨z, rfl, rfl, rfl, rfl⟩
    exact ⟨(⟨0, ⟨#[]⟩, 0, 47, h, B, left⟩, [], ch), ⟨ha, Went.refl I hl.1, fun _ => ⟨rfl, rfl, rfl, rfl⟩, fun h => absurd h (by omega), fun h => absurd h (by omega)⟩, rfl, rfl, rfl⟩
  · exact gcell_c lim h B ch left v I ha hlim hl (by omega)
end Go.Proofs.YtpndofpcghfjdaaGreatDoor
