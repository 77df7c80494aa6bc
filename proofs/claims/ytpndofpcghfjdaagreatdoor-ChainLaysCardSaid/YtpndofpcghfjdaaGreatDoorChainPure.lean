/- Long values over pages: what a chain is, what laying it comes to. No program in sight. -/
import Derived.Test.YtpndofpcghfjdaaGreatDoorShelfGood
import Derived.Lib.TrimByte
namespace Go.Proofs.YtpndofpcghfjdaaGreatDoor
/-- A page of a chain. -/
def pageS (part : ByteArray) (next : Int) : ByteArray := strOf (([3] ++ fixedL next.toNat 4 ++ bytesOf part) ++ List.replicate (227 - part.size) 0)
def partV (v : ByteArray) (i : Nat) : ByteArray := v.extract (227 * i) (min (227 * i + 227) v.size)
theorem partV_size (v : ByteArray) (i : Nat) : (partV v i).size = min (227 * i + 227) v.size - 227 * i := by
  unfold partV; simp
theorem pageS_size {part : ByteArray} {next : Int} (h : part.size ≤ 227) : (pageS part next).size = 232 := by
  unfold pageS; rw [strOf_size]; simp only [List.length_append, fixedL_length, bytesOf_length, List.length_replicate, List.length_cons, List.length_nil]; omega
def nxt (s : ByteArray) : Nat := numOf (bytesOf (s.extract 1 5))
/-- A page's part and what is behind it, `left` bytes to come. -/
def prt (s : ByteArray) (left : Int) : ByteArray := if left < 227 then (s.extract 5 s.size).extract 0 left.toNat else s.extract 5 s.size
def rst (s : ByteArray) (left : Int) : ByteArray := if left < 227 then (s.extract 5 s.size).extract left.toNat (s.extract 5 s.size).size else ⟨#[]⟩
structure OkPg (s : ByteArray) (left : Int) : Prop where
  kind : Lib.hasPrefix (bytesOf s) [3] = true
  last : nxt s = 0 ↔ left ≤ 227
  rest : Lib.trimB (bytesOf (rst s left)) 0 = []
theorem trim_zeros (k : Nat) : Lib.trimB (List.replicate k 0) 0 = [] := by
  have h : ∀ k : Nat, (List.replicate k (0 : UInt8)).dropWhile (· == 0) = [] := by
    intro k
    induction k with
    | zero => rfl
    | succ k ih => rw [List.replicate_succ, List.dropWhile_cons_of_pos (by decide)]; exact ih
  unfold Lib.trimB Lib.trimRightB Lib.trimLeftB
  rw [List.reverse_replicate, h]; rfl
theorem page_bytes (part : ByteArray) (next : Int) : bytesOf (pageS part next) = ([3] ++ fixedL next.toNat 4 ++ bytesOf part) ++ List.replicate (227 - part.size) 0 := by unfold pageS; rw [bytesOf_strOf]
theorem page_from (part : ByteArray) (next : Int) : bytesOf ((pageS part next).extract 5 (pageS part next).size) = bytesOf part ++ List.replicate (227 - part.size) 0 := by
  rw [bytes_from, page_bytes]
  have e : ([3] ++ fixedL next.toNat 4).length = 5 := by rw [List.length_append, fixedL_length]; rfl
  rw [List.append_assoc, List.append_assoc, ← List.append_assoc, List.drop_append_of_le_length (by rw [e]; exact Nat.le_refl _), List.drop_of_length_le (by rw [e]; exact Nat.le_refl _), List.nil_append]
theorem page_nxt {part : ByteArray} {next : Int} (h : 0 ≤ next ∧ next < 4096) : ((nxt (pageS part next) : Nat) : Int) = next := by
  unfold nxt
  rw [bytesOf_extract, page_bytes]
  have e : (([3] ++ fixedL next.toNat 4 ++ bytesOf part ++ List.replicate (227 - part.size) 0).take 5).drop 1 = fixedL next.toNat 4 := by
    have e5 : ([3] ++ fixedL next.toNat 4).length = 5 := by rw [List.length_append, fixedL_length]; rfl
    rw [List.append_assoc, List.take_append_of_le_length (by rw [e5]; exact Nat.le_refl _), List.take_of_length_le (by rw [e5]; exact Nat.le_refl _)]
    rfl
  rw [e]; exact four_back h
/-- A page that was laid is read: its part, the next one. -/
theorem page_ok {part : ByteArray} {next left : Int} (h : 0 ≤ next ∧ next < 4096) (h1 : next = 0 ↔ left ≤ 227) (h0 : 0 < left) (hs : (part.size : Int) = min left 227) : OkPg (pageS part next) left ∧ prt (pageS part next) left = part := by
  have hn := page_nxt (part := part) h
  have hf := page_from part next
  refine ⟨⟨?_, ?_, ?_⟩, ?_⟩
  · rw [page_bytes]; rfl
  · rw [← h1]; omega
  · unfold rst
    split
    · rw [bytes_from, hf, List.drop_append_of_le_length (by rw [bytesOf_length]; omega), List.drop_of_length_le (by rw [bytesOf_length]; omega), List.nil_append]
      exact trim_zeros _
    · rfl
  · unfold prt
    split
    · rw [← bytesOf_inj, bytes_upto, hf, List.take_append_of_le_length (by rw [bytesOf_length]; omega), List.take_of_length_le (by rw [bytesOf_length]; omega)]
    · rw [← bytesOf_inj, hf, show 227 - part.size = 0 by omega]; simp
/-- What walking comes to: bytes, pages, an error, the calls left. -/
structure WR where
  d : List UInt8
  l : List Int
  e : Int
  left : Int
def WR.pre (d : List UInt8) (l : List Int) (z : WR) : WR := if z.e = 0 then ⟨d ++ z.d, l ++ z.l, 0, z.left⟩ else z
theorem WR.pre_nil (z : WR) : z.pre [] [] = z := by
  unfold WR.pre; split
  · rename_i h; obtain ⟨d, l, e, left⟩ := z; dsimp only at h ⊢; rw [h]; rfl
  · rfl
theorem WR.pre_pre (d d' : List UInt8) (l l' : List Int) (z : WR) : (z.pre d' l').pre d l = z.pre (d ++ d') (l ++ l') := by
  by_cases h : z.e = 0
  · unfold WR.pre; rw [if_pos h]; simp [h]
  · unfold WR.pre; rw [if_neg h, if_neg h, if_neg h]
inductive WalkD (p : Int) (B : Bk) : Int → Int → Int → WR → Prop
  | stop {at' sz left : Int} : sz ≤ 0 → WalkD p B at' sz left ⟨[], [], 0, left⟩
  | err {at' sz left : Int} {g : SG} : 0 < sz → SGetD p left B at' g → g.e ≠ 0 → WalkD p B at' sz left ⟨[], [], g.e, g.left⟩
  | bad {at' sz left : Int} {g : SG} : 0 < sz → SGetD p left B at' g → g.e = 0 → ¬ OkPg g.s sz → WalkD p B at' sz left ⟨[], [], 30, g.left⟩
  | step {at' sz left : Int} {g : SG} {z : WR} : 0 < sz → SGetD p left B at' g → g.e = 0 → OkPg g.s sz → WalkD p B (nxt g.s : Nat) (sz - 227) g.left z → WalkD p B at' sz left (z.pre (bytesOf (prt g.s sz)) [at'])
/-- What a call of walk comes to: a cell of a size, bytes and a page. -/
def WalkC (p : Int) (B : Bk) (left s : Int) (d : ByteArray) (pg : Int) (ok : Prop) (z : WR) : Prop :=
  (¬ ok ∧ z = ⟨[], [], 1, left⟩) ∨ (ok ∧ pg = 0 ∧ z = ⟨bytesOf d, [], 0, left⟩) ∨ (ok ∧ pg ≠ 0 ∧ WalkD p B pg s left z)
/-- The parts from one on, laid on these pages. -/
def Chn (B : Bk) (v : ByteArray) : Nat → List Int → Prop
  | _, [] => True
  | i, p :: ps => getB B p = pageS (partV v i) (ps.headD 0) ∧ Chn B v (i + 1) ps
def InUse (P : Int) (ch : Ch) (ps : List Int) : Prop := ∀ p ∈ ps, 1 ≤ p ∧ p < P ∧ p ∉ fr ch
theorem Chn.frame {B B' : Bk} {v : ByteArray} : ∀ {i : Nat} {ps : List Int}, Chn B v i ps → (∀ p ∈ ps, getB B' p = getB B p) → Chn B' v i ps
  | _, [], _, _ => trivial
  | i, p :: ps, h, hf => ⟨by rw [hf p (by simp)]; exact h.1, Chn.frame h.2 fun q hq => hf q (by simp [hq])⟩
theorem get_any {p left : Int} {B : Bk} {n : Int} {z : SG} (H : SGetD p left B n z) (hl : -1 ≤ left) (hn : 1 ≤ n ∧ n < p) : (left = 0 ∧ z.e = 11 ∧ z.left = 0) ∨ (z.s = getB B n ∧ z.e = 0 ∧ -1 ≤ z.left ∧ z.left ≤ max left 0 ∧ (left = -1 ↔ z.left = -1)) := by
  obtain ⟨b, hb, H⟩ := H
  rcases hb with ⟨h0, rfl⟩ | ⟨h0, l', hl', ⟨hx, rfl⟩ | ⟨_, _, rfl⟩⟩
  · rcases H with ⟨_, rfl⟩ | ⟨h, _⟩
    · exact .inl ⟨h0, rfl, rfl⟩
    · exact absurd h (by decide)
  · omega
  · rcases H with ⟨h, _⟩ | ⟨_, rfl⟩
    · exact absurd rfl h
    · refine .inr ⟨rfl, rfl, ?_, ?_, ?_⟩ <;> dsimp only <;> omega
/-- Walking along what was laid. -/
theorem walk_chn {P : Int} {B : Bk} {v : ByteArray} (hP : P ≤ 4096) : ∀ {ps : List Int} {i : Nat} {left : Int} {z : WR}, Chn B v i ps → (∀ p ∈ ps, 1 ≤ p ∧ p < P) → (227 * (i + ps.length - 1) < v.size ∨ ps = []) → v.size ≤ 227 * (i + ps.length) → -1 ≤ left →
    WalkD P B (ps.headD 0) ((v.size : Int) - (227 * i : Nat)) left z →
    (z.e = 0 ∧ z.d = (bytesOf v).drop (227 * i) ∧ z.l = ps ∧ -1 ≤ z.left ∧ (left = -1 → z.left = -1)) ∨ (z.e = 11 ∧ left ≠ -1 ∧ ps ≠ [] ∧ z.d = [] ∧ z.l = [])
  | [], i, left, z, _, _, _, hs, hl, H => by
    simp only [List.length_nil, Nat.add_zero] at hs
    cases H with
    | stop h => exact .inl ⟨rfl, by rw [List.drop_of_length_le (by rw [bytesOf_length]; exact hs)], rfl, hl, fun h => h⟩
    | err h => omega
    | bad h => omega
    | step h => omega
  | p :: ps, i, left, z, hc, hb, h1, hs, hl, H => by
    simp only [List.length_cons] at h1 hs
    have h1' : 227 * (i + ps.length) < v.size := by rcases h1 with h | h; · exact (by rw [show i + (ps.length + 1) - 1 = i + ps.length by omega] at h; exact h)
                                                    · cases h
    have hi : 227 * i ≤ 227 * (i + ps.length) := Nat.mul_le_mul_left _ (Nat.le_add_right _ _)
    have hpb := hb p (by simp)
    have hnx : 0 ≤ ps.headD 0 ∧ ps.headD 0 < 4096 := by
      match ps with
      | [] => exact ⟨Int.le_refl _, by show (0 : Int) < 4096; decide⟩
      | q :: _ => have := hb q (by simp); show 0 ≤ q ∧ q < 4096; omega
    have hn0 : ps.headD 0 = 0 ↔ (v.size : Int) - (227 * i : Nat) ≤ 227 := by
      match ps with
      | [] => simp only [List.length_nil] at hs; exact iff_of_true rfl (by omega)
      | q :: r =>
        have := hb q (by simp)
        simp only [List.length_cons] at h1'
        refine iff_of_false (by show ¬ q = 0; omega) ?_
        have : 227 * (i + 1) ≤ 227 * (i + (r.length + 1)) := Nat.mul_le_mul_left _ (by omega)
        omega
    obtain ⟨ok, hp⟩ := page_ok (part := partV v i) hnx hn0 (by omega) (by rw [partV_size]; omega)
    have hg1 := hc.1
    cases H with
    | stop h => omega
    | err _ hG he =>
      rcases get_any hG hl hpb with ⟨a, b, c⟩ | ⟨_, b, _⟩
      · exact .inr ⟨b, by omega, (by simp), rfl, rfl⟩
      · exact absurd b he
    | bad _ hG he hk =>
      rcases get_any hG hl hpb with ⟨a, b, c⟩ | ⟨b, _, _⟩
      · rw [b] at he; exact absurd he (by decide)
      · rw [b, List.headD_cons, hg1] at hk; exact absurd ok hk
    | step _ hG he hk hw =>
      rename_i g z
      rcases get_any hG hl hpb with ⟨a, b, c⟩ | ⟨b, _, hl2, _, hl3⟩
      · rw [b] at he; exact absurd he (by decide)
      · rw [List.headD_cons, hg1] at b
        rw [b, page_nxt hnx] at hw
        rw [b, hp]
        have e1 : (v.size : Int) - (227 * i : Nat) - 227 = (v.size : Int) - (227 * (i + 1) : Nat) := by omega
        rw [e1] at hw
        have e2 : i + 1 + ps.length = i + (ps.length + 1) := by omega
        rcases walk_chn hP hc.2 (fun q hq => hb q (by simp [hq])) (by rw [e2, show i + (ps.length + 1) - 1 = i + ps.length by omega]; exact .inl h1') (by rw [e2]; exact hs) hl2 hw with ⟨x1, x2, x3, x4, x5⟩ | ⟨x1, x2, x3, x4, x5⟩
        · refine .inl ?_
          unfold WR.pre
          rw [if_pos x1]
          refine ⟨rfl, ?_, ?_, x4, fun h => x5 (hl3.1 h)⟩
          · dsimp only
            rw [x2]
            unfold partV
            rw [bytesOf_extract]
            have : (List.take (min (227 * i + 227) v.size) (bytesOf v)).drop (227 * i) = ((bytesOf v).drop (227 * i)).take 227 := by
              rw [List.drop_take]
              by_cases hm : 227 * i + 227 ≤ v.size
              · rw [Nat.min_eq_left hm, show 227 * i + 227 - 227 * i = 227 by omega]
              · rw [Nat.min_eq_right (by omega), List.take_of_length_le (by rw [List.length_drop, bytesOf_length]; exact Nat.le_refl _), List.take_of_length_le (by rw [List.length_drop, bytesOf_length]; omega)]
            rw [this, show 227 * (i + 1) = 227 * i + 227 by omega, ← List.drop_drop, List.take_append_drop]
          · dsimp only; rw [x3]; rfl
        · refine .inr ?_
          unfold WR.pre
          rw [if_neg (by rw [x1]; decide)]
          exact ⟨x1, fun h => x2 (hl3.1 h), (by simp), x4, x5⟩
end Go.Proofs.YtpndofpcghfjdaaGreatDoor
namespace Go.Proofs.YtpndofpcghfjdaaGreatDoor
theorem new_arm {lim left : Int} {h : Hd} {B : Bk} {z : SN} (H : SNewD lim h left B z) (hl : -1 ≤ left) :
    (left = 0 ∧ z = ⟨0, 11, h, B, 0⟩) ∨ (left ≠ 0 ∧ SNewD lim h (-1) B ⟨z.n, z.e, z.h, z.B, -1⟩ ∧ -1 ≤ z.left ∧ z.left ≤ left ∧ (left = -1 → z.left = -1)) := by
  obtain ⟨b, hb, H⟩ := H
  have key : (left = 0 ∧ b = (11, 0)) ∨ (left ≠ 0 ∧ BegD h.p (-1) 1 (b.1, -1) ∧ (b.1 = 0 ∨ b.1 = 21) ∧ -1 ≤ b.2 ∧ b.2 ≤ left ∧ (left = -1 → b.2 = -1)) := by
    rcases hb with ⟨h0, rfl⟩ | ⟨h0, l', h1, ⟨h2, rfl⟩ | ⟨h2, h3, rfl⟩⟩
    · exact .inl ⟨h0, rfl⟩
    · refine .inr ⟨h0, .inr ⟨by decide, -1, .inr ⟨by decide, rfl⟩, .inl ⟨h2, rfl⟩⟩, .inr rfl, ?_⟩
      clear H; dsimp only; omega
    · refine .inr ⟨h0, .inr ⟨by decide, -1, .inr ⟨by decide, rfl⟩, .inr ⟨h2, h3, rfl⟩⟩, .inl rfl, ?_⟩
      clear H; dsimp only; omega
  rcases key with ⟨h0, rfl⟩ | ⟨h0, hb', he, hl'⟩
  · rcases H with ⟨_, _, rfl⟩ | ⟨h1, _⟩
    · exact .inl ⟨h0, rfl⟩
    · exact absurd h1 (by decide)
  · right
    rcases H with ⟨e1, e2, rfl⟩ | ⟨h1, ⟨h2, h3, rfl⟩ | ⟨h2, t, hT, ⟨h3, rfl⟩ | ⟨h3, rfl⟩⟩⟩
    · exfalso; rcases he with e | e; exact e1 e; exact e2 e
    · exact ⟨h0, ⟨_, hb', .inr ⟨h1, .inl ⟨h2, h3, rfl⟩⟩⟩, hl'⟩
    · exact ⟨h0, ⟨_, hb', .inr ⟨h1, .inr ⟨h2, t, hT, .inl ⟨h3, rfl⟩⟩⟩⟩, hl'⟩
    · exact ⟨h0, ⟨_, hb', .inr ⟨h1, .inr ⟨h2, t, hT, .inr ⟨h3, rfl⟩⟩⟩⟩, hl'⟩
theorem put_any {h : Hd} {left : Int} {B : Bk} {n : Int} {d : ByteArray} {z : SN} (H : SPutD h left B n d z) (hl : -1 ≤ left) (hn : 1 ≤ n ∧ n < h.p) (hd : d.size = 232) :
    (left = 0 ∧ z = ⟨0, 11, h, B, 0⟩) ∨ (left ≠ 0 ∧ ∃ l', z = ⟨0, 0, h, putB B n d, l'⟩ ∧ -1 ≤ l' ∧ l' ≤ left ∧ (left = -1 → l' = -1)) := by
  obtain ⟨b, hb, H⟩ := H
  rcases hb with ⟨h0, rfl⟩ | ⟨h0, l', h1, ⟨h2, rfl⟩ | ⟨_, _, rfl⟩⟩
  · rcases H with ⟨_, rfl⟩ | ⟨e, _⟩ | ⟨e, _⟩
    · exact .inl ⟨h0, rfl⟩
    · exact absurd e (by decide)
    · exact absurd e (by decide)
  · omega
  · rcases H with ⟨e, _⟩ | ⟨_, e, _⟩ | ⟨_, _, rfl⟩
    · exact absurd rfl e
    · exact absurd hd e
    · refine .inr ⟨h0, l', rfl, ?_, ?_, ?_⟩ <;> omega
/-- What laying comes to: an error, the first page, the shelf. -/
structure CR where
  e : Int
  n : Int
  h : Hd
  B : Bk
  left : Int
inductive LayW (lim : Int) (v : ByteArray) : Nat → Hd → Bk → Int → Int → CR → Prop
  | done {h : Hd} {B : Bk} {left n : Int} : LayW lim v 0 h B left n ⟨0, n, h, B, left⟩
  | new {k : Nat} {h : Hd} {B : Bk} {left n : Int} {a : SN} : SNewD lim h left B a → a.e ≠ 0 → LayW lim v (k + 1) h B left n ⟨a.e, 0, a.h, a.B, a.left⟩
  | put {k : Nat} {h : Hd} {B : Bk} {left n : Int} {a b : SN} : SNewD lim h left B a → a.e = 0 → SPutD a.h a.left a.B a.n (pageS (partV v k) n) b → b.e ≠ 0 → LayW lim v (k + 1) h B left n ⟨b.e, 0, b.h, b.B, b.left⟩
  | step {k : Nat} {h : Hd} {B : Bk} {left n : Int} {a b : SN} {z : CR} : SNewD lim h left B a → a.e = 0 → SPutD a.h a.left a.B a.n (pageS (partV v k) n) b → b.e = 0 → LayW lim v k b.h b.B b.left a.n z → LayW lim v (k + 1) h B left n z
/-- How far the shelf came: these pages were taken. -/
structure Went (lim : Int) (h : Hd) (B : Bk) (ch : Ch) (left : Int) (qs : List Int) (h' : Hd) (B' : Bk) (ch' : Ch) (left' : Int) : Prop where
  inv : ShI h' B' ch'
  left : -1 ≤ left' ∧ left' ≤ left ∧ (left = -1 → left' = -1)
  frame : ∀ m, 1 ≤ m → m < h.p → m ∉ fr ch → getB B' m = getB B m
  nodup : qs.Nodup
  news : ∀ q ∈ qs, 1 ≤ q ∧ q < h'.p ∧ q ∉ fr ch' ∧ (q ∈ fr ch ∨ h.p ≤ q)
  free : ∀ m ∈ fr ch', m ∈ fr ch
  count : h'.p - h'.x = h.p - h.x + qs.length
  grow : h.p ≤ h'.p ∧ (h'.p = h.p ∨ h'.x = 0) ∧ h'.p ≤ max h.p lim
theorem partV_le (v : ByteArray) (i : Nat) : (partV v i).size ≤ 227 := by rw [partV_size]; omega
/-- A page that is taken. -/
theorem went_new {lim : Int} {h : Hd} {B : Bk} {ch : Ch} {left : Int} {a : SN} (H : SNewD lim h left B a) (I : ShI h B ch) (hlim : lim ≤ 4096) (hl : -1 ≤ left) :
    (left = 0 ∧ a = ⟨0, 11, h, B, 0⟩) ∨ (left ≠ 0 ∧ fr ch = [] ∧ h.x = 0 ∧ lim ≤ h.p ∧ ∃ l', a = ⟨0, 22, h, B, l'⟩ ∧ -1 ≤ l' ∧ l' ≤ left ∧ (left = -1 → l' = -1)) ∨ (left ≠ 0 ∧ a.e = 0 ∧ ∃ ch', Went lim h B ch left [a.n] a.h a.B ch' a.left) := by
  rcases new_arm H hl with h0 | ⟨h0, H', hl1, hl2, hl3⟩
  · exact .inl h0
  · right
    rcases new_good H' I hlim with ⟨e1, e2, e3, e4⟩ | ⟨ch', N⟩
    · left
      obtain ⟨n, e, h', B', l'⟩ := a
      simp only [SN.mk.injEq, and_true] at e4
      obtain ⟨rfl, rfl, rfl, rfl⟩ := e4
      exact ⟨h0, e1, e2, e3, l', rfl, hl1, hl2, hl3⟩
    · right
      refine ⟨h0, N.e, ch', ?_⟩
      have w := N.which
      have nd := I.rep.nodup
      have bd := I.rep.bound
      have I' := N.inv
      have ix := I.hx
      have ip := I.hp
      dsimp only at w I'
      refine ⟨I', ⟨hl1, hl2, hl3⟩, ?_, (by simp), ?_, ?_, ?_, ?_⟩
      · intro m hm1 hm2 hm3
        refine N.frame m hm3 ?_
        dsimp only
        rcases w with ⟨e, _⟩ | ⟨_, _, e, _⟩
        · intro e2; exact hm3 (by rw [e, e2]; simp)
        · omega
      · intro q hq
        obtain rfl := List.mem_singleton.1 hq
        rcases w with ⟨e, e2, _⟩ | ⟨e0, e1, e2, e3, _⟩
        · have := bd a.n (by rw [e]; simp)
          rw [e] at nd
          exact ⟨this.1, by omega, (List.nodup_cons.1 nd).1, .inl (by rw [e]; simp)⟩
        · exact ⟨by omega, by omega, by rw [e1]; simp, .inr (by omega)⟩
      · intro m hm
        rcases w with ⟨e, _⟩ | ⟨_, e1, _⟩
        · rw [e]; exact List.mem_cons_of_mem _ hm
        · rw [e1] at hm; cases hm
      · rcases w with ⟨e, e2, e3, _⟩ | ⟨e0, e1, e2, e3, e4, e5, _⟩
        · simp only [List.length_singleton]; omega
        · simp only [List.length_singleton]; omega
      · rcases w with ⟨e, e2, e3, _⟩ | ⟨e0, e1, e2, e3, e4, e5, _⟩ <;> omega
theorem Went.put {lim : Int} {h : Hd} {B : Bk} {ch : Ch} {left : Int} {qs : List Int} {h' : Hd} {B' : Bk} {ch' : Ch} {left' l2 n : Int} {d : ByteArray} (W : Went lim h B ch left qs h' B' ch' left') (hn : n ∈ qs) (hl : -1 ≤ l2 ∧ l2 ≤ left' ∧ (left' = -1 → l2 = -1)) :
    Went lim h B ch left qs h' (putB B' n d) ch' l2 := by
  have hq := W.news n hn
  refine ⟨W.inv.put hq.2.2.1, ⟨hl.1, Int.le_trans hl.2.1 W.left.2.1, fun e => hl.2.2 (W.left.2.2 e)⟩, ?_, W.nodup, W.news, W.free, W.count, W.grow⟩
  intro m h1 h2 h3
  rw [getB_put, if_neg ?_]
  · exact W.frame m h1 h2 h3
  · rintro rfl
    rcases hq.2.2.2 with e | e
    · exact h3 e
    · omega
theorem Went.trans {lim : Int} {h1 h2 h3 : Hd} {B1 B2 B3 : Bk} {c1 c2 c3 : Ch} {l1 l2 l3 : Int} {ps qs : List Int} (W : Went lim h1 B1 c1 l1 ps h2 B2 c2 l2) (W' : Went lim h2 B2 c2 l2 qs h3 B3 c3 l3) : Went lim h1 B1 c1 l1 (qs ++ ps) h3 B3 c3 l3 := by
  have g := W.grow
  have g' := W'.grow
  refine ⟨W'.inv, ⟨W'.left.1, Int.le_trans W'.left.2.1 W.left.2.1, fun e => W'.left.2.2 (W.left.2.2 e)⟩, ?_, ?_, ?_, fun m hm => W.free m (W'.free m hm), ?_, ?_⟩
  · intro m h1 h2 h3
    rw [W'.frame m h1 (by omega) (fun e => h3 (W.free m e)), W.frame m h1 h2 h3]
  · refine List.nodup_append.2 ⟨W'.nodup, W.nodup, ?_⟩
    intro a ha b hb e
    subst e
    have x := W'.news a ha
    have y := W.news a hb
    rcases x.2.2.2 with e | e
    · exact y.2.2.1 e
    · omega
  · intro q hq
    rcases List.mem_append.1 hq with hq | hq
    · have x := W'.news q hq
      refine ⟨x.1, x.2.1, x.2.2.1, ?_⟩
      rcases x.2.2.2 with e | e
      · exact .inl (W.free q e)
      · exact .inr (by omega)
    · have x := W.news q hq
      exact ⟨x.1, by omega, fun e => x.2.2.1 (W'.free q e), x.2.2.2⟩
  · have := W.count; have := W'.count; rw [List.length_append]; omega
  · have c := W.count; have c' := W'.count
    have i2 := W.inv.hx; have i3 := W'.inv.hx
    refine ⟨by omega, ?_, by omega⟩
    rcases g'.2.1 with e | e
    · rcases g.2.1 with e2 | e2
      · exact .inl (by omega)
      · right
        have : fr c2 = [] := List.eq_nil_of_length_eq_zero (by omega)
        have : fr c3 = [] := by
          cases hf : fr c3 with
          | nil => rfl
          | cons y r => have := W'.free y (by rw [hf]; simp); rw [‹fr c2 = []›] at this; cases this
        rw [i3, this]; rfl
    · exact .inr e
theorem Went.refl {lim : Int} {h : Hd} {B : Bk} {ch : Ch} {left : Int} (I : ShI h B ch) (hl : -1 ≤ left) : Went lim h B ch left [] h B ch left :=
  ⟨I, ⟨hl, Int.le_refl _, fun e => e⟩, fun _ _ _ _ => rfl, List.nodup_nil, (fun q hq => by cases hq), fun _ h => h, by simp, ⟨Int.le_refl _, .inl rfl, by omega⟩⟩
theorem InUse.of {P : Int} {ch : Ch} {ps : List Int} (h : ∀ q ∈ ps, 1 ≤ q ∧ q < P ∧ q ∉ fr ch) : InUse P ch ps := h
/-- What laying comes to. -/
theorem lay_sum {lim : Int} {v : ByteArray} (hlim : lim ≤ 4096) : ∀ {k : Nat} {h : Hd} {B : Bk} {ch : Ch} {left n : Int} {z : CR} {ps : List Int}, LayW lim v k h B left n z → ShI h B ch → -1 ≤ left → InUse h.p ch ps → ps.Nodup → Chn B v k ps → n = ps.headD 0 →
    ∃ qs ch', Went lim h B ch left qs z.h z.B ch' z.left ∧
      ((z.e = 0 ∧ qs.length = k ∧ Chn z.B v 0 (qs ++ ps) ∧ z.n = (qs ++ ps).headD 0) ∨ (z.e = 11 ∧ left ≠ -1 ∧ z.n = 0 ∧ 0 < k) ∨ (z.e = 22 ∧ z.h.x = 0 ∧ lim ≤ z.h.p ∧ z.n = 0 ∧ qs.length < k))
  | 0, h, B, ch, left, n, z, ps, H, I, hl, hu, hnd, hc, hn => by
    cases H with
    | done => exact ⟨[], ch, Went.refl I hl, .inl ⟨rfl, rfl, hc, hn⟩⟩
  | k + 1, h, B, ch, left, n, z, ps, H, I, hl, hu, hnd, hc, hn => by
    have armed : ∀ {a : SN} {ch2 : Ch} {qs : List Int} {b : SN}, Went lim h B ch left qs a.h a.B ch2 a.left → a.left = 0 → b = ⟨0, 11, a.h, a.B, 0⟩ → left ≠ -1 := fun W e _ h => by have := W.left.2.2 h; omega
    cases H with
    | new hN he =>
      rcases went_new hN I hlim hl with ⟨h0, rfl⟩ | ⟨h0, e1, e2, e3, l', rfl, e4⟩ | ⟨_, e, _⟩
      · exact ⟨[], ch, ⟨I, ⟨by dsimp only; omega, by dsimp only; omega, fun e => by omega⟩, fun _ _ _ _ => rfl, List.nodup_nil, (fun q hq => by cases hq), fun _ h => h, by simp, ⟨Int.le_refl _, .inl rfl, by dsimp only; omega⟩⟩, .inr (.inl ⟨rfl, by omega, rfl, by omega⟩)⟩
      · exact ⟨[], ch, ⟨I, e4, fun _ _ _ _ => rfl, List.nodup_nil, (fun q hq => by cases hq), fun _ h => h, by simp, ⟨Int.le_refl _, .inl rfl, by dsimp only; omega⟩⟩, .inr (.inr ⟨rfl, e2, e3, rfl, by simp⟩)⟩
      · exact absurd e he
    | put hN he hP hb =>
      rename_i a b
      rcases went_new hN I hlim hl with ⟨h0, rfl⟩ | ⟨h0, _, _, _, l', rfl, _⟩ | ⟨h0, e, ch2, W⟩
      · exfalso; dsimp only at he; omega
      · exfalso; dsimp only at he; omega
      · have nn := W.news a.n (by simp)
        rcases put_any hP W.left.1 ⟨nn.1, nn.2.1⟩ (pageS_size (partV_le v k)) with ⟨h1, rfl⟩ | ⟨_, l', rfl, _⟩
        · refine ⟨[a.n], ch2, ⟨W.inv, ⟨by dsimp only; omega, by have := W.left; dsimp only; omega, fun e => by have := W.left; omega⟩, W.frame, W.nodup, W.news, W.free, W.count, W.grow⟩, .inr (.inl ⟨rfl, ?_, rfl, by omega⟩)⟩
          intro e; have := W.left.2.2 e; omega
        · exact absurd rfl hb
    | step hN he hP hb hw =>
      rename_i a b
      rcases went_new hN I hlim hl with ⟨h0, rfl⟩ | ⟨h0, _, _, _, l', rfl, _⟩ | ⟨h0, e, ch2, W⟩
      · exfalso; dsimp only at he; omega
      · exfalso; dsimp only at he; omega
      · have nn := W.news a.n (by simp)
        rcases put_any hP W.left.1 ⟨nn.1, nn.2.1⟩ (pageS_size (partV_le v k)) with ⟨h1, rfl⟩ | ⟨_, l', rfl, hl'⟩
        · exfalso; dsimp only at hb; omega
        · dsimp only at hw
          have W2 := W.put (n := a.n) (d := pageS (partV v k) n) (by simp) hl'
          have hnp : a.n ∉ ps := fun hm => by
            have x := hu _ hm
            rcases nn.2.2.2 with e | e
            · exact x.2.2 e
            · omega
          have hu2 : InUse a.h.p ch2 (a.n :: ps) := by
            intro q hq
            rcases List.mem_cons.1 hq with rfl | hq
            · exact ⟨nn.1, nn.2.1, nn.2.2.1⟩
            · have x := hu q hq
              have g := W.grow
              exact ⟨x.1, by omega, fun e => x.2.2 (W.free q e)⟩
          have hc2 : Chn (putB a.B a.n (pageS (partV v k) n)) v k (a.n :: ps) := by
            refine ⟨by rw [getB_put, if_pos rfl, hn], hc.frame fun p hp => ?_⟩
            rw [getB_put, if_neg (by rintro rfl; exact hnp hp)]
            have x := hu p hp
            exact W.frame p x.1 x.2.1 x.2.2
          obtain ⟨qs, ch3, W3, hz⟩ := lay_sum hlim hw W2.inv hl'.1 hu2 (List.nodup_cons.2 ⟨hnp, hnd⟩) hc2 rfl
          refine ⟨qs ++ [a.n], ch3, W2.trans W3, ?_⟩
          have ea : qs ++ [a.n] ++ ps = qs ++ a.n :: ps := by rw [List.append_assoc]; rfl
          rw [ea]
          rcases hz with ⟨x1, x2, x3, x4⟩ | ⟨x1, x2, x3, x4⟩ | ⟨x1, x2, x3, x4, x5⟩
          · exact .inl ⟨x1, by rw [List.length_append, x2]; rfl, x3, x4⟩
          · exact .inr (.inl ⟨x1, fun e => x2 (hl'.2.2 (W.left.2.2 e)), x3, by omega⟩)
          · exact .inr (.inr ⟨x1, x2, x3, x4, by rw [List.length_append, List.length_singleton]; omega⟩)
end Go.Proofs.YtpndofpcghfjdaaGreatDoor
