/- A change under its journal while the disk fails (plain); Back; journal.restore: its loop over the list from behind, the keys sorted, its contract. -/
import Derived.Test.YtelolcagncgfpaaGreatJrnChg
import Derived.Test.YtelolcagncgfpaaGreatEngW
import Derived.OwnWalkIn
import Derived.RangeFuncNested
import Derived.RangeFuncLeaves
import Derived.Test.YtelolcagncgfpaaGreatBase
import Derived.Test.YtelolcagncgfpaaGreatProg
import Derived.Shelf.Abstract
import Derived.WalkKit
import Derived.TacticsInMore
import Derived.LoopNIn
import Derived.LoopIn
import Derived.Test.YtelolcagncgfpaaGreatIter
import Derived.Shelf.SlIterI.Nil
import Derived.Shelf.SortM.Plain
import Derived.Shelf.SortM.SortNone
namespace Go.Proofs.YtelolcagncgfpaaGreat
open Go.RowKit
set_option linter.unusedSimpArgs false
set_option linter.unusedVariables false
theorem closed_ok {k n : Int} {s : Nat} {d : ByteArray} (hk : 0 ≤ k ∧ k < 4294967296) (hn : 0 ≤ n ∧ n < 4294967296) (hd : d.size = 232) : closeE k n d = 0 ∧ (closeS k n s d).size = 256 := by
 have hok : sealOk k n (bytesOf d) = true := sealOk_iff.2 ⟨hk, hn, by rw [bytesOf_length]; exact hd⟩
 unfold closeE closeS
 rw [if_pos hok, if_pos hok]
 exact ⟨rfl, by rw [strOf_size, sealL_length (by rw [bytesOf_length]; exact hd)]⟩
structure K1 (k : Dk) : Prop where
 down : k.down = false
 kind : k.kind = 1
 room : k.room = 16384
theorem beg1 {k : Dk} (h : K1 k) {s : ByteArray} (hs : goodName s = true) : ∃ k', K1 k' ∧ (begS k s true = (0, k') ∨ begS k s true = (11, k')) := by
 have e : begS k s true = (if k.at' = 0 then (0, { k with ops := k.ops + 1 }) else if 1 < k.at' then (0, { k with ops := k.ops + 1, at' := k.at' - 1 }) else if 0 < k.more then (11, { k with ops := k.ops + 1, more := k.more - 1 }) else (11, { k with ops := k.ops + 1, at' := 0 })) := by
  unfold begS
  rw [if_neg (by rw [hs]; simp), if_neg (by rw [h.down]; decide)]
  split
  · rfl
  · split
    · rfl
    · rw [if_neg (by rw [h.kind]; decide)]
 rw [e]
 split
 · exact ⟨{ k with ops := k.ops + 1 }, ⟨h.down, h.kind, h.room⟩, .inl rfl⟩
 · split
   · exact ⟨{ k with ops := k.ops + 1, at' := k.at' - 1 }, ⟨h.down, h.kind, h.room⟩, .inl rfl⟩
   · split
     · exact ⟨{ k with ops := k.ops + 1, more := k.more - 1 }, ⟨h.down, h.kind, h.room⟩, .inr rfl⟩
     · exact ⟨{ k with ops := k.ops + 1, at' := 0 }, ⟨h.down, h.kind, h.room⟩, .inr rfl⟩
theorem found1 {k : Dk} (h : K1 k) {fs : Fs} {s : ByteArray} (hs : goodName s = true) : ∃ k', K1 k' ∧ (((∃ x, findF fs s = some x) ∧ foundD ⟨k, fs⟩ s true = (0, ⟨k', fs⟩)) ∨ (findF fs s = none ∧ foundD ⟨k, fs⟩ s true = (14, ⟨k', fs⟩)) ∨ foundD ⟨k, fs⟩ s true = (11, ⟨k', fs⟩)) := by
 obtain ⟨k', h1, h2 | h2⟩ := beg1 h hs
 · cases hf : findF fs s with
   | none => exact ⟨k', h1, .inr (.inl ⟨rfl, by unfold foundD; dsimp only; rw [h2, hf]; rfl⟩)⟩
   | some x => exact ⟨k', h1, .inl ⟨⟨x, rfl⟩, by unfold foundD; dsimp only; rw [h2, hf]; rfl⟩⟩
 · exact ⟨k', h1, .inr (.inr (by unfold foundD; dsimp only; rw [h2]; rfl))⟩
section
variable {k k' : Dk} {fs : Fs} {s d : ByteArray}
theorem writeW_old {i : Int} {X : Fl} (h0 : foundD ⟨k, fs⟩ s true = (0, ⟨k', fs⟩)) (hf : findF fs s = some X) (hi : 0 ≤ i) (hd : d.size = 256) (hl : i ≤ X.now.length) (hr : (total fs : Int) < k'.room) : writeD ⟨k, fs⟩ s i d = (0, ⟨k', putF fs s (writeF X i.toNat d)⟩) := by
 unfold writeD
 rw [right_up hi hd, h0, hf]
 dsimp only [Option.getD_some]
 rw [if_neg (by simp), if_neg (by omega), if_neg]
 rintro (⟨h, _⟩ | ⟨h, h'⟩)
 · cases h
 · omega
theorem writeW_new (h0 : foundD ⟨k, fs⟩ s true = (14, ⟨k', fs⟩)) (hf : findF fs s = none) (hd : d.size = 256) (hl : fs.length < 8) (hr : (total fs : Int) < k'.room) : writeD ⟨k, fs⟩ s 0 d = (0, ⟨k', putF fs s ⟨[some d], [none], [true], false⟩⟩) := by
 unfold writeD
 rw [right_up (Int.le_refl 0) hd, h0, hf]
 dsimp only [Option.getD_none]
 rw [if_neg (by simp), if_neg (show ¬ ((fl0.now.length : Int) < 0) by decide), if_neg]
 · rfl
 · rintro (⟨_, h⟩ | ⟨_, h⟩) <;> omega
theorem writeW_err {i : Int} (h0 : foundD ⟨k, fs⟩ s true = (11, ⟨k', fs⟩)) (hi : 0 ≤ i) (hd : d.size = 256) : writeD ⟨k, fs⟩ s i d = (11, ⟨k', fs⟩) := by
 unfold writeD
 rw [right_up hi hd, h0]
 rfl
theorem syncW_old {X : Fl} (h0 : foundD ⟨k, fs⟩ s true = (0, ⟨k', fs⟩)) (hf : findF fs s = some X) : syncD ⟨k, fs⟩ s = (0, ⟨k', putF fs s (syncF X)⟩) := by
 unfold syncD
 rw [h0, hf]
 rfl
theorem syncW_err (h0 : foundD ⟨k, fs⟩ s true = (11, ⟨k', fs⟩)) : syncD ⟨k, fs⟩ s = (11, ⟨k', fs⟩) := by
 unfold syncD
 rw [h0]
 rfl
end
section
variable {k : Dk} (h : K1 k)
include h
theorem write1_main (m j : Option Fl) {i : Nat} {d : ByteArray} (hd : d.size = 256) (hi : i ≤ lenO m) (hr : lenO m + lenO j < 16384) :
 ∃ k', K1 k' ∧ (writeD ⟨k, fs2 m j⟩ mainN (i : Nat) d = (0, ⟨k', fs2 (some (setO m i d)) j⟩) ∨ writeD ⟨k, fs2 m j⟩ mainN (i : Nat) d = (11, ⟨k', fs2 m j⟩)) := by
 obtain ⟨k', h1, h2⟩ := found1 h (fs := fs2 m j) main_good
 have hroom : ((total (fs2 m j) : Nat) : Int) < k'.room := by rw [total2, h1.room]; omega
 refine ⟨k', h1, ?_⟩
 rcases h2 with ⟨⟨x, hx⟩, h2⟩ | ⟨hx, h2⟩ | h2
 · rw [find2_main] at hx
   subst hx
   have := writeW_old (i := ((i : Nat) : Int)) h2 (find2_main _ _) (Int.natCast_nonneg _) hd (by simp only [lenO] at hi; omega) hroom
   rw [put2_main, Int.toNat_natCast] at this
   exact .inl this
 · rw [find2_main] at hx
   subst hx
   simp only [lenO] at hi
   obtain rfl : i = 0 := by omega
   have := writeW_new h2 (find2_main _ _) hd (by have := len2 none j; omega) hroom
   rw [put2_main] at this
   exact .inl this
 · exact .inr (writeW_err h2 (Int.natCast_nonneg _) hd)
theorem write1_jn (m j : Option Fl) {d : ByteArray} (hd : d.size = 256) (hr : lenO m + lenO j < 16384) :
 ∃ k', K1 k' ∧ (writeD ⟨k, fs2 m j⟩ jnN ((lenO j : Nat) : Int) d = (0, ⟨k', fs2 m (some (setO j (lenO j) d))⟩) ∨ writeD ⟨k, fs2 m j⟩ jnN ((lenO j : Nat) : Int) d = (11, ⟨k', fs2 m j⟩)) := by
 obtain ⟨k', h1, h2⟩ := found1 h (fs := fs2 m j) jn_good
 have hroom : ((total (fs2 m j) : Nat) : Int) < k'.room := by rw [total2, h1.room]; omega
 refine ⟨k', h1, ?_⟩
 rcases h2 with ⟨⟨x, hx⟩, h2⟩ | ⟨hx, h2⟩ | h2
 · rw [find2_jn] at hx
   subst hx
   have := writeW_old (i := ((x.now.length : Nat) : Int)) h2 (find2_jn _ _) (Int.natCast_nonneg _) hd (Int.le_refl _) hroom
   rw [put2_jn, Int.toNat_natCast] at this
   exact .inl this
 · rw [find2_jn] at hx
   subst hx
   have := writeW_new h2 (find2_jn _ _) hd (by have := len2 m none; omega) hroom
   rw [put2_jn] at this
   exact .inl this
 · exact .inr (writeW_err h2 (Int.natCast_nonneg _) hd)
theorem sync1_main (x : Fl) (j : Option Fl) : ∃ k', K1 k' ∧ (syncD ⟨k, fs2 (some x) j⟩ mainN = (0, ⟨k', fs2 (some (syncF x)) j⟩) ∨ syncD ⟨k, fs2 (some x) j⟩ mainN = (11, ⟨k', fs2 (some x) j⟩)) := by
 obtain ⟨k', h1, h2⟩ := found1 h (fs := fs2 (some x) j) main_good
 refine ⟨k', h1, ?_⟩
 rcases h2 with ⟨_, h2⟩ | ⟨hx, h2⟩ | h2
 · have := syncW_old h2 (find2_main _ _)
   rw [put2_main] at this
   exact .inl this
 · rw [find2_main] at hx; cases hx
 · exact .inr (syncW_err h2)
theorem sync1_jn (m : Option Fl) (y : Fl) : ∃ k', K1 k' ∧ (syncD ⟨k, fs2 m (some y)⟩ jnN = (0, ⟨k', fs2 m (some (syncF y))⟩) ∨ syncD ⟨k, fs2 m (some y)⟩ jnN = (11, ⟨k', fs2 m (some y)⟩)) := by
 obtain ⟨k', h1, h2⟩ := found1 h (fs := fs2 m (some y)) jn_good
 refine ⟨k', h1, ?_⟩
 rcases h2 with ⟨_, h2⟩ | ⟨hx, h2⟩ | h2
 · have := syncW_old h2 (find2_jn _ _)
   rw [put2_jn] at this
   exact .inl this
 · rw [find2_jn] at hx; cases hx
 · exact .inr (syncW_err h2)
end
def RunO (j : Option Fl) (F : FM) : Prop := match j with | none => F = fm0 | some y => y.now ≠ [] ∧ runC y.now fm0 true = some F
def pagesOf (F : FM) : List Int := F.sure.map fun q => q.1
structure CoreI (p : Nat) (m j : Option Fl) (F : FM) (c : Nat) : Prop where
 run : RunO j F
 pages : F.pages = if F.feet = 0 then 0 else (p : Nat)
 feet : 0 ≤ F.feet
 salt : j ≠ none → F.salt = 99
 data : ∀ q ∈ F.sure ++ F.loose, (0 ≤ q.1 ∧ q.1 < (p : Nat)) ∧ q.2 = pgS 232 q.1
 none : F.feet = 0 → F.sure = [] ∧ m = laidF p
 some : 0 < p → ∃ x, m = some x ∧ p ≤ x.now.length ∧ ∀ i : Nat, i < p → ((i : Nat) : Int) ∉ pagesOf F → x.now[i]? = (laidM p)[i]?
 lm : lenO m ≤ 8 + c
 lj : lenO j ≤ c
 ll : F.loose.length ≤ c
structure WayI (p : Nat) (J : JM) (m j : Option Fl) (F : FM) (c : Nat) : Prop where
 core : CoreI p m j F c
 jp : J.pages = (p : Nat)
 js : J.salt = 99
 jf : J.feet = F.feet
 jn : J.noted = (F.sure ++ F.loose).map fun q => q.1
 jl : J.loose = (F.loose.length : Nat)
section
variable {p : Nat} {m j : Option Fl} {F : FM} {c : Nat}
theorem CoreI.mono (h : CoreI p m j F c) {c' : Nat} (hc : c ≤ c') : CoreI p m j F c' := ⟨h.run, h.pages, h.feet, h.salt, h.data, h.none, h.some, by have := h.lm; omega, by have := h.lj; omega, by have := h.ll; omega⟩
theorem runO_sync {y : Fl} (h : RunO (some y) F) : RunO (some (syncF y)) F := h
theorem runO_lay (h : RunO j F) (hs : j ≠ none → F.salt = 99) {kind number : Int} {d : ByteArray} {F' : FM} (h3 : stepF F (closeS kind number 99 d) (decide (j = none)) = some F') : RunO (some (setO j (lenO j) (closeS kind number 99 d))) F' := by
 cases j with
 | none =>
  obtain rfl : F = fm0 := h
  rw [decide_eq_true rfl] at h3
  refine ⟨by simp [setO], ?_⟩
  show runC [some _] fm0 true = some F'
  simp only [runC, h3]
 | some y =>
  obtain ⟨hne, hrun⟩ := h
  rw [decide_eq_false (by simp)] at h3
  have hw : (setO (some y) (lenO (some y)) (closeS kind number 99 d)).now = y.now ++ [some (closeS kind number 99 d)] := by
   show (writeF y y.now.length _).now = _
   unfold writeF
   rw [if_pos rfl]
  refine ⟨by rw [hw]; simp, ?_⟩
  rw [hw, runC_app hrun]
  have he : (true && y.now.isEmpty) = false := by
   cases hh : y.now with
   | nil => exact absurd hh hne
   | cons _ _ => rfl
  rw [he]
  simp only [runC, h3]
end
theorem lay1 {k : Dk} (h : K1 k) (m j : Option Fl) {kind number : Int} {d : ByteArray} (hk : 0 ≤ kind ∧ kind < 4294967296) (hn : 0 ≤ number ∧ number < 4294967296) (hd : d.size = 232) (hr : lenO m + lenO j < 16384) :
 ∃ k', K1 k' ∧ (layD 99 ⟨k, fs2 m j⟩ kind number d = (0, ⟨k', fs2 m (some (setO j (lenO j) (closeS kind number 99 d)))⟩) ∨ layD 99 ⟨k, fs2 m j⟩ kind number d = (11, ⟨k', fs2 m j⟩)) := by
 obtain ⟨c1, c2⟩ := closed_ok (s := Int.toNat 99) hk hn hd
 unfold layD
 rw [if_pos c1, size2_jn, max_siz]
 exact write1_jn h m j c2 hr
theorem salt99 {p : Nat} {m j : Option Fl} {F : FM} {c : Nat} (h : CoreI p m j F c) : decide (j = none) = true ∨ (99 : Int) = F.salt := by
 cases j with
 | none => exact .inl (decide_eq_true rfl)
 | some y => exact .inr (h.salt (by simp)).symm
section
variable {p : Nat} {J : JM} {m j : Option Fl} {F : FM} {c : Nat} {k : Dk}
theorem note1 (h : WayI p J m j F c) (hk : K1 k) (hp : p < 9) (hc : c ≤ 1000) {q : Int} (hq : 0 ≤ q ∧ q < (p : Nat)) :
 ∃ e J' k' j' F', noteJ J ⟨k, fs2 m j⟩ q (pgS 232 q) = (e, J', ⟨k', fs2 m j'⟩) ∧ K1 k' ∧ CoreI p m j' F' (c + 1) ∧ (e = 0 → WayI p J' m j' F' (c + 1) ∧ q ∈ J'.noted) := by
 have hno : ¬ (q < 0 ∨ J.pages ≤ q ∨ (pgS 232 q).size ≠ 232) := by rw [h.jp, pgS_size]; omega
 unfold noteJ
 rw [if_neg hno]
 by_cases hm : q ∈ J.noted
 · rw [if_pos hm]
   have hC := h.core.mono (Nat.le_succ c)
   exact ⟨0, J, k, j, F, rfl, hk, hC, fun _ => ⟨⟨hC, h.jp, h.js, h.jf, h.jn, h.jl⟩, hm⟩⟩
 · rw [if_neg hm, h.js]
   have hlm := h.core.lm
   have hlj := h.core.lj
   obtain ⟨k', hk', e | e⟩ := lay1 hk m j (kind := 2) (number := q) (d := pgS 232 q) (by decide) (by omega) (pgS_size _ _) (by omega)
   · rw [e]
     obtain ⟨s1, s2, s3⟩ := step_rec (F := F) (n := q) (salt := 99) (d := pgS 232 q) (b := decide (j = none)) ⟨hq.1, by omega⟩ (pgS_size _ _) ⟨by decide, by decide⟩ (salt99 h.core)
     have hrun := runO_lay h.core.run h.core.salt s3
     have hC : CoreI p m (some (setO j (lenO j) (closeS 2 q 99 (pgS 232 q)))) { F with salt := 99, loose := F.loose ++ [(q, pgS 232 q)] } (c + 1) := by
      refine ⟨hrun, h.core.pages, h.core.feet, fun _ => rfl, ?_, h.core.none, h.core.some, by omega, ?_, ?_⟩
      · intro r hr
        dsimp only at hr
        rw [← List.append_assoc] at hr
        rcases List.mem_append.1 hr with hr | hr
        · exact h.core.data r hr
        · rcases List.mem_singleton.1 hr with rfl
          exact ⟨hq, rfl⟩
      · have := (setO_len j (Nat.le_refl (lenO j)) (closeS 2 q 99 (pgS 232 q))).2
        show (setO j (lenO j) _).now.length ≤ _
        omega
      · have := h.core.ll
        dsimp only
        rw [List.length_append, List.length_singleton]
        omega
     refine ⟨0, ⟨J.pages, 99, J.noted ++ [q], J.loose + 1, J.feet⟩, k', _, _, rfl, hk', hC, fun _ => ⟨⟨hC, h.jp, rfl, h.jf, ?_, ?_⟩, by simp⟩⟩
     · show J.noted ++ [q] = (F.sure ++ (F.loose ++ [(q, pgS 232 q)])).map fun q => q.1
       rw [h.jn]
       simp
     · show J.loose + 1 = _
       rw [h.jl, List.length_append, List.length_singleton]
       omega
   · rw [e]
     exact ⟨11, J, k', j, F, rfl, hk', h.core.mono (Nat.le_succ c), fun hh => by cases hh⟩
theorem seal1 (h : WayI p J m j F c) (hk : K1 k) (hp : p < 9) (hc : c ≤ 1000) :
 ∃ e J' k' j' F', sealJ J ⟨k, fs2 m j⟩ = (e, J', ⟨k', fs2 m j'⟩) ∧ K1 k' ∧ CoreI p m j' F' (c + 1) ∧ (e = 0 → WayI p J' m j' F' (c + 1) ∧ F'.loose = [] ∧ 0 < F'.feet ∧ J'.noted = J.noted) := by
 have hC := h.core.mono (Nat.le_succ c)
 unfold sealJ
 by_cases hz : 0 < J.feet ∧ J.loose = 0
 · rw [if_pos hz]
   have hl : F.loose = [] := List.eq_nil_of_length_eq_zero (by have := hz.2; rw [h.jl] at this; omega)
   exact ⟨0, J, k, j, F, rfl, hk, hC, fun _ => ⟨⟨hC, h.jp, h.js, h.jf, h.jn, h.jl⟩, hl, by rw [← h.jf]; exact hz.1, rfl⟩⟩
 · rw [if_neg hz]
   have hlm := h.core.lm
   have hlj := h.core.lj
   have hpre : ∃ k1 j1, K1 k1 ∧ (presyncJ J ⟨k, fs2 m j⟩ = (0, ⟨k1, fs2 m j1⟩) ∨ (presyncJ J ⟨k, fs2 m j⟩ = (11, ⟨k1, fs2 m j1⟩))) ∧ RunO j1 F ∧ (j1 = none ↔ j = none) ∧ lenO j1 = lenO j := by
    unfold presyncJ
    split
    · rename_i hlo
      cases j with
      | none =>
       exfalso
       have : F = fm0 := h.core.run
       rw [h.jl, this] at hlo
       exact absurd hlo (by decide)
      | some y =>
       obtain ⟨k1, hk1, e | e⟩ := sync1_jn hk m y
       · exact ⟨k1, some (syncF y), hk1, .inl e, h.core.run, by simp, rfl⟩
       · exact ⟨k1, some y, hk1, .inr e, h.core.run, by simp, rfl⟩
    · exact ⟨k, j, hk, .inl rfl, h.core.run, Iff.rfl, rfl⟩
   obtain ⟨k1, j1, hk1, hpe, hrun1, hj1, hl1⟩ := hpre
   have hC1 : CoreI p m j1 F (c + 1) := ⟨hrun1, hC.pages, hC.feet, fun hh => hC.salt fun e => hh (hj1.2 e), hC.data, hC.none, hC.some, hC.lm, by rw [hl1]; exact hC.lj, hC.ll⟩
   rcases hpe with hpe | hpe
   · rw [hpe]
     dsimp only
     rw [if_neg (by simp), h.js]
     have hll := h.core.ll
     have hft : footS J.pages J.feet = footS (p : Nat) F.feet := by rw [h.jp, h.jf]
     rw [hft, h.jl]
     obtain ⟨k2, hk2, e | e⟩ := lay1 hk1 m j1 (kind := 3) (number := (F.loose.length : Nat)) (d := footS (p : Nat) F.feet) (by decide) (by omega) (footS_size _ _) (by omega)
     · rw [e]
       dsimp only
       rw [if_neg (by simp)]
       obtain ⟨s1, s2, s3⟩ := step_foot (F := F) (p := (p : Nat)) (salt := 99) (b := decide (j1 = none)) (by omega) (by
        rw [h.core.pages]
        by_cases h0 : F.feet = 0
        · exact .inl h0
        · rw [if_neg h0]; exact .inr rfl) (by omega) ⟨by decide, by decide⟩ (salt99 hC1) (fun q hq => (h.core.data q (List.mem_append_right _ hq)).1.2)
       have hrun := runO_lay hrun1 hC1.salt s3
       have hfe := h.core.feet
       have hC2 : ∀ y : Fl, RunO (some y) ⟨(p : Nat), F.feet + 1, 99, F.sure ++ F.loose, []⟩ → y.now.length = (setO j1 (lenO j1) (closeS 3 (F.loose.length : Nat) 99 (footS (p : Nat) F.feet))).now.length → CoreI p m (some y) ⟨(p : Nat), F.feet + 1, 99, F.sure ++ F.loose, []⟩ (c + 1) := fun y hy hly => by
        refine ⟨hy, ?_, by show 0 ≤ F.feet + 1; omega, fun _ => rfl, ?_, fun hh => ?_, fun h0 => ?_, hC.lm, ?_, Nat.zero_le _⟩
        · dsimp only; rw [if_neg (by omega)]
        · intro r hr
          dsimp only at hr
          rw [List.append_nil] at hr
          exact h.core.data r hr
        · dsimp only at hh; omega
        · obtain ⟨x, hx, hx1, hx2⟩ := h.core.some h0
          refine ⟨x, hx, hx1, fun i hi hn => hx2 i hi fun hm => hn ?_⟩
          show _ ∈ (F.sure ++ F.loose).map _
          rw [List.map_append]
          exact List.mem_append_left _ hm
        · have := (setO_len j1 (Nat.le_refl (lenO j1)) (closeS 3 (F.loose.length : Nat) 99 (footS (p : Nat) F.feet))).2
          show y.now.length ≤ _
          omega
       obtain ⟨k3, hk3, e3 | e3⟩ := sync1_jn hk2 m (setO j1 (lenO j1) (closeS 3 (F.loose.length : Nat) 99 (footS (p : Nat) F.feet)))
       · rw [e3]
         dsimp only
         rw [if_neg (by simp)]
         have hC3 := hC2 (syncF _) (runO_sync hrun) rfl
         exact ⟨0, _, k3, _, _, rfl, hk3, hC3, fun _ => ⟨⟨hC3, h.jp, rfl, by show J.feet + 1 = _; rw [h.jf], by show J.noted = _; rw [h.jn, List.append_nil], rfl⟩, rfl, by show 0 < F.feet + 1; omega, rfl⟩⟩
       · rw [e3]
         dsimp only
         rw [if_pos (by simp)]
         exact ⟨11, J, k3, _, _, rfl, hk3, hC2 _ hrun rfl, fun hh => by cases hh⟩
     · rw [e]
       dsimp only
       rw [if_pos (by simp)]
       exact ⟨11, J, k2, j1, F, rfl, hk2, hC1, fun hh => by cases hh⟩
   · rw [hpe]
     dsimp only
     rw [if_pos (by simp)]
     exact ⟨11, J, k1, j1, F, rfl, hk1, hC1, fun hh => by cases hh⟩
end
theorem setO_now (m : Option Fl) {i : Nat} (hi : i ≤ lenO m) (d : ByteArray) {x : Fl} (hx : m = some x) (a : Nat) (ha : a < x.now.length) (hne : a ≠ i) : (setO m i d).now[a]? = x.now[a]? := by
 subst hx
 show (writeF x i d).now[a]? = _
 unfold writeF
 split
 · dsimp only
   rw [List.getElem?_append_left ha]
 · dsimp only
   rw [List.getElem?_set, if_neg (fun e => hne e.symm)]
theorem main1 {p : Nat} {J : JM} {m j : Option Fl} {F : FM} {c : Nat} (h : WayI p J m j F c) (hl : F.loose = []) (hf : 0 < F.feet) {n : Nat} (hn : n ≤ lenO m) (hs : n < p → ((n : Nat) : Int) ∈ J.noted) (d : ByteArray) :
 WayI p J (some (setO m n d)) j F (c + 1) := by
 have hlen := setO_len m hn d
 have hlm := h.core.lm
 refine ⟨⟨h.core.run, h.core.pages, h.core.feet, h.core.salt, h.core.data, fun hh => by omega, fun h0 => ?_, ?_, by have := h.core.lj; omega, by have := h.core.ll; omega⟩, h.jp, h.js, h.jf, h.jn, h.jl⟩
 · obtain ⟨x, hx, hx1, hx2⟩ := h.core.some h0
   have hlx : lenO m = x.now.length := by rw [hx]; rfl
   refine ⟨_, rfl, by omega, fun i hi hni => ?_⟩
   rw [setO_now m hn d hx i (by omega) (fun e => hni ?_)]
   · exact hx2 i hi hni
   · subst e
     have := hs hi
     rw [h.jn, hl, List.append_nil] at this
     exact this
 · show (setO m n d).now.length ≤ _
   omega
theorem mainsync1 {p : Nat} {J : JM} {x : Fl} {j : Option Fl} {F : FM} {c : Nat} (h : WayI p J (some x) j F c) (hf : 0 < F.feet) : WayI p J (some (syncF x)) j F c :=
 ⟨⟨h.core.run, h.core.pages, h.core.feet, h.core.salt, h.core.data, fun hh => by omega, fun h0 => by
  obtain ⟨x', hx, hx1, hx2⟩ := h.core.some h0
  cases hx
  exact ⟨_, rfl, hx1, hx2⟩, h.core.lm, h.core.lj, h.core.ll⟩, h.jp, h.js, h.jf, h.jn, h.jl⟩
def LeftI (p : Nat) (D : DM) (c : Nat) : Prop := ∃ k m j F, D = ⟨k, fs2 m j⟩ ∧ K1 k ∧ CoreI p m j F c
theorem LeftI.of {p : Nat} {k : Dk} {m j : Option Fl} {F : FM} {c c' : Nat} (hk : K1 k) (h : CoreI p m j F c) (hc : c ≤ c') : LeftI p ⟨k, fs2 m j⟩ c' := ⟨k, m, j, F, rfl, hk, h.mono hc⟩
theorem WayI.mono {p : Nat} {J : JM} {m j : Option Fl} {F : FM} {c c' : Nat} (h : WayI p J m j F c) (hc : c ≤ c') : WayI p J m j F c' := ⟨h.core.mono hc, h.jp, h.js, h.jf, h.jn, h.jl⟩
set_option maxRecDepth 100000 in
theorem changed1 {p : Nat} (hp : p < 9) (L : List ChT) : ∀ {J : JM} {m j : Option Fl} {F : FM} {b : Bool} {c : Nat} {k : Dk}, WayI p J m j F c → K1 k → (b = true → F.loose = [] ∧ 0 < F.feet) → c + 3 * L.length ≤ 900 →
 LeftI p (changedL (p : Nat) L J ⟨k, fs2 m j⟩ b).2 (c + 3 * L.length) := by
 induction L with
 | nil => exact fun h hk _ _ => LeftI.of hk h.core (by simp)
 | cons y L ih =>
  intro J m j F b c k h hk hbs hc
  rw [List.length_cons] at hc ⊢
  obtain ⟨q, _, hq2, hq3⟩ := pick_nat y p
  -- the note
  obtain ⟨e1, J1, k1, j1, F1, ha, hk1, hC1, hW1⟩ : ∃ e1 J1 k1 j1 F1, (e1, J1, ⟨k1, fs2 m j1⟩) = noteC J ⟨k, fs2 m j⟩ (p : Nat) (q : Nat) ∧ K1 k1 ∧ CoreI p m j1 F1 (c + 1) ∧
   (e1 = 0 → WayI p J1 m j1 F1 (c + 1) ∧ (q < p → ((q : Nat) : Int) ∈ J1.noted) ∧ (¬ (((q : Nat) : Int) < ((p : Nat) : Int) ∧ ((q : Nat) : Int) ∉ J.noted) → F1 = F)) := by
   rcases Classical.em (((q : Nat) : Int) < ((p : Nat) : Int) ∧ ((q : Nat) : Int) ∉ J.noted) with hcq | hcq
   · obtain ⟨e, J', k', j', F', e1, hk', hC', hW'⟩ := note1 h hk hp (by omega) (q := (q : Nat)) ⟨by omega, hcq.1⟩
     exact ⟨e, J', k', j', F', by rw [noteC_yes hcq]; exact e1.symm, hk', hC', fun he => ⟨(hW' he).1, fun _ => (hW' he).2, fun hh => absurd hcq hh⟩⟩
   · refine ⟨0, J, k, j, F, noteC_no hcq, hk, h.core.mono (by omega), fun _ => ⟨h.mono (by omega), fun hqp => ?_, fun _ => rfl⟩⟩
     exact Classical.byContradiction fun hh => hcq ⟨by omega, hh⟩
  rcases Classical.em (¬ e1 = 0) with he1 | he1
  · rw [chg1 hq3 ha he1]
    exact LeftI.of hk1 hC1 (by omega)
  replace he1 := Classical.not_not.1 he1
  obtain ⟨hW1, hin, hsame⟩ := hW1 he1
  -- the seal
  obtain ⟨e4, J4, k4, j4, F4, hs, hk4, hC4, hW4⟩ : ∃ e4 J4 k4 j4 F4, (e4, J4, ⟨k4, fs2 m j4⟩) = sealC J J1 ⟨k1, fs2 m j1⟩ (p : Nat) (q : Nat) b ∧ K1 k4 ∧ CoreI p m j4 F4 (c + 2) ∧
   (e4 = 0 → WayI p J4 m j4 F4 (c + 2) ∧ F4.loose = [] ∧ 0 < F4.feet ∧ J4.noted = J1.noted) := by
   rcases Classical.em ((((q : Nat) : Int) < ((p : Nat) : Int) ∧ ((q : Nat) : Int) ∉ J.noted) ∨ b = false) with hcq | hcq
   · obtain ⟨e, J', k', j', F', e1, hk', hC', hW'⟩ := seal1 hW1 hk1 hp (by omega)
     exact ⟨e, J', k', j', F', by rw [sealC_yes hcq]; exact e1.symm, hk', hC', hW'⟩
   · have hb : b = true := by
      cases b with
      | true => rfl
      | false => exact absurd (.inr rfl) hcq
     have hFF := hsame (fun hh => hcq (.inl hh))
     obtain ⟨hb1, hb2⟩ := hbs hb
     exact ⟨0, J1, k1, j1, F1, sealC_no (fun hh => hcq (.inl hh)) hb, hk1, hC1.mono (by omega), fun _ => ⟨hW1.mono (by omega), by rw [hFF]; exact hb1, by rw [hFF]; exact hb2, rfl⟩⟩
  rcases Classical.em (¬ e4 = 0) with he4 | he4
  · rw [chg2 hq3 ha he1 hs he4]
    exact LeftI.of hk4 hC4 (by omega)
  replace he4 := Classical.not_not.1 he4
  obtain ⟨hW4, hlo, hfe, hno⟩ := hW4 he4
  have fin : ∀ {J' : JM} {m' j' : Option Fl} {k' : Dk}, WayI p J' m' j' F4 (c + 3) → K1 k' → LeftI p (changedL (p : Nat) L J' ⟨k', fs2 m' j'⟩ true).2 (c + 3 * (L.length + 1)) := fun hW hk' => by
   obtain ⟨k2, m2, j2, F2, e, hk2, hC2⟩ := ih (b := true) hW hk' (fun _ => ⟨hlo, hfe⟩) (by omega)
   exact ⟨k2, m2, j2, F2, e, hk2, hC2.mono (by omega)⟩
  have hsz : max (sizeD ⟨k4, fs2 m j4⟩ mainN) 0 = (lenO m : Nat) := by rw [size2_main, max_siz]
  have hlm := hW4.core.lm
  have hlj := hW4.core.lj
  rcases Classical.em (max (sizeD ⟨k4, fs2 m j4⟩ mainN) 0 < ((q : Nat) : Int)) with hm | hm
  · rw [chg3 hq3 ha he1 hs he4 hm]
    exact fin (hW4.mono (by omega)) hk4
  · obtain ⟨k5, hk5, e5 | e5⟩ := write1_main hk4 m j4 (i := q) (d := secM (q : Nat) y.2.1) (secM_size (by omega) _) (by omega) (by omega)
    · have hW5 := main1 hW4 hlo hfe (n := q) (by omega) (fun hqp => by rw [hno]; exact hin hqp) (secM (q : Nat) y.2.1)
      cases hy : y.2.2 with
      | false =>
       rw [chg7 hq3 ha he1 hs he4 hm e5.symm rfl hy]
       exact fin (hW5.mono (by omega)) hk5
      | true =>
       obtain ⟨k6, hk6, e6 | e6⟩ := sync1_main hk5 (setO m q (secM (q : Nat) y.2.1)) j4
       · rw [chg6 hq3 ha he1 hs he4 hm e5.symm rfl hy e6.symm rfl]
         exact fin ((mainsync1 hW5 hfe).mono (by omega)) hk6
       · rw [chg5 hq3 ha he1 hs he4 hm e5.symm rfl hy e6.symm (by decide)]
         exact LeftI.of hk6 hW5.core (by omega)
    · rw [chg4 hq3 ha he1 hs he4 hm e5.symm (by decide)]
      exact LeftI.of hk5 hW4.core (by omega)
def putP : List Pg → Int → ByteArray → List Pg
 | [], n, d => [(n, d)]
 | q :: r, n, d => if q.1 = n then (n, d) :: r else q :: putP r n d
def firstM (l : List Pg) : List Pg := l.foldr (fun q M => putP M q.1 q.2) []
def lookP (M : List Pg) (n : Int) : ByteArray := ((M.find? fun q => q.1 == n).map fun q => q.2).getD ⟨#[]⟩
theorem putP_mem {M : List Pg} {n : Int} {d : ByteArray} : ∀ {q : Pg}, q ∈ putP M n d → q = (n, d) ∨ q ∈ M := by
 induction M with
 | nil => intro q h; exact .inl (List.mem_singleton.1 h)
 | cons a M ih =>
  intro q h
  unfold putP at h
  split at h
  · rcases List.mem_cons.1 h with h | h
    · exact .inl h
    · exact .inr (List.mem_cons_of_mem _ h)
  · rcases List.mem_cons.1 h with h | h
    · exact .inr (h ▸ List.mem_cons_self)
    · rcases ih h with h | h
      · exact .inl h
      · exact .inr (List.mem_cons_of_mem _ h)
theorem putP_keys {M : List Pg} {n : Int} {d : ByteArray} {a : Int} : a ∈ (putP M n d).map (fun q => q.1) ↔ a = n ∨ a ∈ M.map (fun q => q.1) := by
 induction M with
 | nil => simp [putP]
 | cons b M ih =>
  unfold putP
  split
  · rename_i h
    simp only [List.map_cons, List.mem_cons, h]
    constructor
    · rintro (h | h)
      · exact .inl h
      · exact .inr (.inr h)
    · rintro (h | h | h)
      · exact .inl h
      · exact .inl h
      · exact .inr h
  · simp only [List.map_cons, List.mem_cons, ih]
    constructor
    · rintro (h | h | h)
      · exact .inr (.inl h)
      · exact .inl h
      · exact .inr (.inr h)
    · rintro (h | h | h)
      · exact .inr (.inl h)
      · exact .inl h
      · exact .inr (.inr h)
theorem firstM_mem {l : List Pg} {q : Pg} (h : q ∈ firstM l) : q ∈ l := by
 induction l with
 | nil => cases h
 | cons a l ih =>
  rcases putP_mem h with h | h
  · rw [h]; exact List.mem_cons_self
  · exact List.mem_cons_of_mem _ (ih h)
theorem firstM_keys {l : List Pg} {a : Int} : a ∈ (firstM l).map (fun q => q.1) ↔ a ∈ l.map (fun q => q.1) := by
 induction l with
 | nil => exact Iff.rfl
 | cons b l ih =>
  show a ∈ (putP (firstM l) b.1 b.2).map _ ↔ _
  rw [putP_keys, ih, List.map_cons, List.mem_cons]
theorem lookP_mem {M : List Pg} {n : Int} (h : n ∈ M.map fun q => q.1) : (n, lookP M n) ∈ M := by
 obtain ⟨q, hq, rfl⟩ := List.mem_map.1 h
 unfold lookP
 cases hf : M.find? (fun r => r.1 == q.1) with
 | none =>
  have := List.find?_eq_none.1 hf q hq
  simp at this
 | some r =>
  have h1 := List.find?_some hf
  have h2 := List.mem_of_find?_eq_some hf
  simp only [beq_iff_eq] at h1
  simp only [Option.map_some, Option.getD_some]
  rw [← h1]
  exact h2
noncomputable def writeAll (M : List Pg) : List Int → DM → Int × DM
 | [], D => (0, D)
 | n :: ks, D =>
  if closeE 1 n (lookP M n) = 0 then
   let w := writeD D mainN n (closeS 1 n 0 (lookP M n))
   if w.1 = 0 then writeAll M ks w.2 else (w.1, w.2)
  else (closeE 1 n (lookP M n), D)
noncomputable def restoreD (p : Int) (M : List Pg) (ks : List Int) (D : DM) : Int × DM :=
 let w := writeAll M ks D
 if w.1 ≠ 0 then w
 else
  let c := if p < sizeD w.2 mainN then cutD w.2 mainN p else (0, w.2)
  if c.1 ≠ 0 then c else if sizeD c.2 mainN < 0 then (0, c.2) else syncD c.2 mainN
def badE (e : Int) : Int := if e = 14 then 30 else e
theorem writeAll_up {p : Nat} (hp : p < 9) {M : List Pg} (hM : ∀ q ∈ M, (0 ≤ q.1 ∧ q.1 < (p : Nat)) ∧ q.2 = pgS 232 q.1) {j : Option Fl} (hj : lenO j ≤ 1000) : ∀ (ks : List Int), (∀ n ∈ ks, n ∈ M.map fun q => q.1) → ∀ {x : Fl} {k : Dk} {n : Int},
 UpD ⟨k, fs2 (some x) j⟩ n → k.room = 16384 → p ≤ x.now.length → x.now.length ≤ 1000 →
 ∃ k' x', writeAll M ks ⟨k, fs2 (some x) j⟩ = (0, ⟨k', fs2 (some x') j⟩) ∧ UpD ⟨k', fs2 (some x') j⟩ (n + ks.length) ∧ k'.room = 16384 ∧ x'.now.length = x.now.length ∧
  ∀ i : Nat, i < p → (((i : Nat) : Int) ∈ ks → x'.now[i]? = (laidM p)[i]?) ∧ (((i : Nat) : Int) ∉ ks → x'.now[i]? = x.now[i]?)
 | [], _, x, k, n, h, hr, _, _ => ⟨k, x, rfl, h.mono (by simp), hr, rfl, fun i _ => ⟨fun hh => (by cases hh), fun _ => rfl⟩⟩
 | a :: ks, hks, x, k, n, h, hr, hpx, hxl => by
  have ha := hM _ (lookP_mem (hks a List.mem_cons_self))
  dsimp only at ha
  obtain ⟨⟨ha0, ha1⟩, ha2⟩ := ha
  obtain ⟨b, rfl⟩ := Int.eq_ofNat_of_zero_le ha0
  have hbp : b < p := by omega
  have hc : closeE 1 (b : Nat) (lookP M (b : Nat)) = 0 := by rw [ha2]; exact (closed_ok (s := 0) (by decide) (by omega) (pgS_size _ _)).1
  have hw := write2_main h.down h.at0 (some x) j (i := b) (d := secM (b : Nat) (b : Nat)) (secM_size (by omega) _) (by show b ≤ x.now.length; omega) (by show ((x.now.length + lenO j : Nat) : Int) < _; rw [hr]; omega)
  have hok := write_okN h.ok mainN (b : Nat) (secM (b : Nat) (b : Nat))
  rw [hw] at hok
  have hcs : closeS 1 (b : Nat) 0 (lookP M (b : Nat)) = secM (b : Nat) (b : Nat) := by rw [ha2]; rfl
  have hx1 : (setO (some x) b (secM (b : Nat) (b : Nat))).now = x.now.set b (some (secM (b : Nat) (b : Nat))) := by
   show (writeF x b _).now = _
   unfold writeF
   rw [if_neg (by omega)]
  have hl1 : (setO (some x) b (secM (b : Nat) (b : Nat))).now.length = x.now.length := by rw [hx1, List.length_set]
  obtain ⟨k', x', e1, e2, e3, e4, e5⟩ := writeAll_up hp hM hj ks (fun m hm => hks m (List.mem_cons_of_mem _ hm)) (x := setO (some x) b (secM (b : Nat) (b : Nat))) (k := upK k) (n := n + 1) ⟨hok, h.down, h.at0⟩ hr (by rw [hl1]; exact hpx) (by rw [hl1]; exact hxl)
  refine ⟨k', x', ?_, e2.mono (by rw [List.length_cons]; omega), e3, e4.trans hl1, fun i hi => ⟨fun hm => ?_, fun hm => ?_⟩⟩
  · unfold writeAll
    rw [if_pos hc, hcs, hw]
    dsimp only
    rw [if_pos rfl, e1]
  · by_cases hik : ((i : Nat) : Int) ∈ ks
    · exact (e5 i hi).1 hik
    · rcases List.mem_cons.1 hm with hm | hm
      · have hib : i = b := by omega
        subst hib
        rw [(e5 i hi).2 hik, hx1, List.getElem?_set, if_pos rfl, if_pos (by omega)]
        unfold laidM
        rw [List.getElem?_map, List.getElem?_range hi]
        rfl
      · exact absurd hm hik
  · rw [(e5 i hi).2 (fun hh => hm (List.mem_cons_of_mem _ hh)), hx1, List.getElem?_set, if_neg]
    intro hbi
    subst hbi
    exact hm List.mem_cons_self
theorem laidF_pos {p : Nat} (hp : 0 < p) : laidF p = some ⟨laidM p, (laidM p).map some, List.replicate p false, true⟩ := by unfold laidF; rw [if_neg (by omega)]
theorem size_of2 (k : Dk) (m j : Option Fl) : sizeD ⟨k, fs2 m j⟩ mainN = sizO m := size2_main k m j
theorem cut2_main {k : Dk} (h1 : k.down = false) (h2 : k.at' = 0) (x : Fl) (j : Option Fl) {n : Nat} (hn : n ≤ x.now.length) : cutD ⟨k, fs2 (some x) j⟩ mainN (n : Nat) = (0, ⟨upK k, fs2 (some (cutF x n)) j⟩) := by
 unfold cutD
 rw [decide_eq_true (Int.natCast_nonneg n), found_up main_good h1 h2 (find2_main _ _), find2_main]
 dsimp only [Option.getD_some]
 rw [if_neg (by simp), if_neg (by omega), put2_main, Int.toNat_natCast]
 rfl
def WasM (p : Nat) (m : Option Fl) : Prop := (p = 0 → lenO m = 0) ∧ (0 < p → ∃ x, m = some x ∧ x.now = laidM p)
theorem restore_up {p : Nat} (hp : p < 9) {M : List Pg} (hM : ∀ q ∈ M, (0 ≤ q.1 ∧ q.1 < (p : Nat)) ∧ q.2 = pgS 232 q.1) {j : Option Fl} (hj : lenO j ≤ 1000) {ks : List Int} (hks : ∀ n, n ∈ ks ↔ n ∈ M.map fun q => q.1)
 {m : Option Fl} {k : Dk} {n : Int} (h : UpD ⟨k, fs2 m j⟩ n) (hr : k.room = 16384) (hl : lenO m ≤ 1000)
 (hmain : 0 < p → ∃ x, m = some x ∧ p ≤ x.now.length ∧ ∀ i : Nat, i < p → ((i : Nat) : Int) ∉ ks → x.now[i]? = (laidM p)[i]?) :
 ∃ k' m', restoreD (p : Nat) M ks ⟨k, fs2 m j⟩ = (0, ⟨k', fs2 m' j⟩) ∧ UpD ⟨k', fs2 m' j⟩ (n + ks.length + 2) ∧ WasM p m' := by
 -- the writes
 have hw : ∃ k1 m1, writeAll M ks ⟨k, fs2 m j⟩ = (0, ⟨k1, fs2 m1 j⟩) ∧ UpD ⟨k1, fs2 m1 j⟩ (n + ks.length) ∧ (0 < p → ∃ x, m1 = some x ∧ p ≤ x.now.length ∧ x.now.take p = laidM p) := by
  rcases Nat.eq_zero_or_pos p with h0 | h0
  · have hk0 : ks = [] := by
     cases hk : ks with
     | nil => rfl
     | cons a r =>
      obtain ⟨q, hq, _⟩ := List.mem_map.1 ((hks a).1 (by rw [hk]; exact List.mem_cons_self))
      have := (hM q hq).1
      omega
    subst hk0
    exact ⟨k, m, rfl, h.mono (by simp), fun hh => by omega⟩
  · obtain ⟨x, rfl, hx1, hx2⟩ := hmain h0
    obtain ⟨k1, x1, e1, e2, e3, e4, e5⟩ := writeAll_up hp hM hj ks (fun a ha => (hks a).1 ha) h hr hx1 hl
    refine ⟨k1, some x1, e1, e2, fun _ => ⟨x1, rfl, by omega, List.ext_getElem? fun i => ?_⟩⟩
    rw [List.getElem?_take]
    split
    · rename_i hi
      by_cases hik : ((i : Nat) : Int) ∈ ks
      · exact (e5 i hi).1 hik
      · rw [(e5 i hi).2 hik]; exact hx2 i hi hik
    · rw [List.getElem?_eq_none (by rw [laidM_len]; omega)]
 obtain ⟨k1, m1, w1, w2, w3⟩ := hw
 unfold restoreD
 dsimp only
 rw [w1]
 dsimp only
 rw [if_neg (by simp), size2_main]
 -- the cut
 have hc : ∃ k2 m2, (if ((p : Nat) : Int) < sizO m1 then cutD ⟨k1, fs2 m1 j⟩ mainN (p : Nat) else (0, ⟨k1, fs2 m1 j⟩)) = (0, ⟨k2, fs2 m2 j⟩) ∧ UpD ⟨k2, fs2 m2 j⟩ (n + ks.length + 1) ∧ WasM p m2 := by
  split
  · rename_i hlt
    cases m1 with
    | none => exact absurd hlt (by show ¬ ((p : Nat) : Int) < -1; omega)
    | some x =>
     have hlx : p ≤ x.now.length := by have : ((p : Nat) : Int) < ((x.now.length : Nat) : Int) := hlt; omega
     have hok := cut_okN w2.ok mainN (p : Nat)
     have e := cut2_main w2.down w2.at0 x j hlx
     rw [e] at hok
     refine ⟨upK k1, some (cutF x p), e, ⟨hok, w2.down, w2.at0⟩, fun h0 => ?_, fun h0 => ?_⟩
     · show (x.now.take p).length = 0
       rw [h0]; rfl
     · obtain ⟨x', hx, _, ht⟩ := w3 h0
       cases hx
       exact ⟨_, rfl, ht⟩
  · rename_i hlt
    refine ⟨k1, m1, rfl, w2.mono (by omega), fun h0 => ?_, fun h0 => ?_⟩
    · cases m1 with
      | none => rfl
      | some x =>
       have : ¬ ((p : Nat) : Int) < ((x.now.length : Nat) : Int) := hlt
       show x.now.length = 0
       omega
    · obtain ⟨x, rfl, hx1, ht⟩ := w3 h0
      have : ¬ ((p : Nat) : Int) < ((x.now.length : Nat) : Int) := hlt
      exact ⟨x, rfl, by rw [← ht, List.take_of_length_le (by omega)]⟩
 obtain ⟨k2, m2, c1, c2, c3⟩ := hc
 rw [c1]
 dsimp only
 rw [if_neg (by simp), size2_main]
 cases m2 with
 | none =>
  rw [if_pos (by show (-1 : Int) < 0; decide)]
  exact ⟨k2, none, rfl, c2.mono (by omega), c3⟩
 | some x =>
  rw [if_neg (by show ¬ ((x.now.length : Nat) : Int) < 0; omega)]
  have hok := sync_okN c2.ok mainN
  have e := sync2_main c2.down c2.at0 x j
  rw [e] at hok
  refine ⟨upK k2, some (syncF x), e, ⟨hok.mono (by omega), c2.down, c2.at0⟩, c3.1, fun h0 => ?_⟩
  obtain ⟨x', hx, hx2⟩ := c3.2 h0
  cases hx
  exact ⟨_, rfl, hx2⟩
theorem find_core {p : Nat} {m j : Option Fl} {F : FM} {c : Nat} (hC : CoreI p m j F c) {k : Dk} {n : Int} (h : UpD ⟨k, fs2 m j⟩ n) : (findJ ⟨k, fs2 m j⟩).1 = (0, F) ∧ (findJ ⟨k, fs2 m j⟩).2.fs = fs2 m j ∧ UpD (findJ ⟨k, fs2 m j⟩).2 (n + c) := by
 unfold findJ
 rw [size2_jn, max_siz, Int.toNat_natCast]
 cases j with
 | none =>
  have : F = fm0 := hC.run
  subst this
  exact ⟨rfl, rfl, h.mono (by omega)⟩
 | some y =>
  obtain ⟨_, hrun⟩ := hC.run
  obtain ⟨r1, r2, r3⟩ := find_run y.now.length 0 (F := fm0) (F' := F) h (find2_jn _ _) (by omega) (by rw [List.drop_zero]; exact hrun)
  have hl := hC.lj
  exact ⟨r1, r2, r3.mono (by show _ ≤ n + _; have : lenO (some y) = y.now.length := rfl; omega)⟩
theorem beg_room (k : Dk) (s : ByteArray) (r : Bool) : (begS k s r).2.room = k.room := by
 unfold begS
 split
 · rfl
 · split
   · rfl
   · split
     · rfl
     · split
       · rfl
       · split
         · rfl
         · split <;> rfl
theorem read_room (D : DM) (s : ByteArray) (i : Int) : (readD D s i).2.k.room = D.k.room := beg_room D.k s true
theorem find_room : ∀ (m i : Nat) (F : FM) (D : DM), (findL m i F D).2.k.room = D.k.room
 | 0, _, _, _ => rfl
 | m + 1, i, F, D => by
  unfold findL
  dsimp only
  split
  · exact read_room D jnN (i : Nat)
  · cases stepF F (readD D jnN (i : Nat)).1.1 (decide (i = 0)) with
    | none => exact read_room D jnN (i : Nat)
    | some F' => exact (find_room m (i + 1) F' _).trans (read_room D jnN (i : Nat))
theorem back_core {p : Nat} (hp : p < 9) {m j : Option Fl} {F : FM} {c : Nat} (hc : c ≤ 900) (hC : CoreI p m j F c) {k : Dk} {n : Int} (h : UpD ⟨k, fs2 m j⟩ n) (hr : k.room = 16384) :
 ∃ k1, findJ ⟨k, fs2 m j⟩ = ((0, F), ⟨k1, fs2 m j⟩) ∧ UpD ⟨k1, fs2 m j⟩ (n + c) ∧
  (0 < F.feet → ∀ ks : List Int, (∀ a, a ∈ ks ↔ a ∈ (firstM F.sure).map fun q => q.1) → ∃ k2 m2, restoreD F.pages (firstM F.sure) ks ⟨k1, fs2 m j⟩ = (0, ⟨k2, fs2 m2 j⟩) ∧ UpD ⟨k2, fs2 m2 j⟩ (n + c + ks.length + 2) ∧ WasM p m2) ∧
  (¬ 0 < F.feet → WasM p m) := by
 obtain ⟨f1, f2, f3⟩ := find_core hC h
 have f4 : (findJ ⟨k, fs2 m j⟩).2.k.room = 16384 := (find_room _ _ _ _).trans hr
 obtain ⟨⟨e, D1⟩, hD1⟩ : ∃ r, r = findJ ⟨k, fs2 m j⟩ := ⟨_, rfl⟩
 rw [← hD1] at f1 f2 f3 f4
 dsimp only at f1 f2 f3 f4
 obtain ⟨k1, fs1⟩ := D1
 dsimp only at f2 f4
 subst f1 f2
 refine ⟨k1, hD1.symm, f3, fun hf ks hks => ?_, fun hf => ?_⟩
 · have hpg : F.pages = (p : Nat) := by rw [hC.pages, if_neg (by omega)]
   rw [hpg]
   exact restore_up hp (M := firstM F.sure) (fun q hq => hC.data q (List.mem_append_left _ (firstM_mem hq))) (by have := hC.lj; omega) hks f3 f4 (by have := hC.lm; omega) (fun h0 => by
    obtain ⟨x, hx, hx1, hx2⟩ := hC.some h0
    exact ⟨x, hx, hx1, fun i hi hni => hx2 i hi fun hm => hni ((hks _).2 (firstM_keys.2 hm))⟩)
 · have h0 : F.feet = 0 := by have := hC.feet; omega
   obtain ⟨_, hm⟩ := hC.none h0
   subst hm
   refine ⟨fun hp0 => ?_, fun hp0 => ?_⟩
   · subst hp0; rfl
   · exact ⟨_, laidF_pos hp0, rfl⟩
theorem gon2 {k : Dk} {m j : Option Fl} {n : Int} (h : UpD ⟨k, fs2 m j⟩ n) : ∃ k', gonJ ⟨k, fs2 m j⟩ = (0, ⟨k', fs2 m none⟩) ∧ UpD ⟨k', fs2 m none⟩ (n + 1) := by
 unfold gonJ
 rw [size2_jn]
 cases j with
 | none =>
  rw [if_pos (by show (-1 : Int) < 0; decide)]
  exact ⟨k, rfl, h.mono (by omega)⟩
 | some y =>
  rw [if_neg (by show ¬ ((y.now.length : Nat) : Int) < 0; omega)]
  have hok := drop_okN h.ok jnN
  have e := drop2_jn h.down h.at0 m y
  rw [e] at hok
  exact ⟨upK k, e, hok, h.down, h.at0⟩
theorem was_read {p : Nat} {m : Option Fl} (hw : WasM p m) (hp : 0 < p) {k : Dk} {n : Int} (h : UpD ⟨k, fs2 m none⟩ n) {i : Nat} (hi : i < p) : readD ⟨k, fs2 m none⟩ mainN (i : Nat) = ((secM (i : Nat) (i : Nat), 0), ⟨upK k, fs2 m none⟩) ∧ UpD ⟨upK k, fs2 m none⟩ (n + 1) := by
 obtain ⟨x, rfl, hx⟩ := hw.2 hp
 have hok := read_okN h.ok mainN (i : Nat)
 have e := read_up (i := ((i : Nat) : Int)) main_good h.down h.at0 (find2_main (some x) none)
 rw [e] at hok
 refine ⟨e.trans ?_, hok, h.down, h.at0⟩
 have : readF x (i : Nat) = (secM (i : Nat) (i : Nat), 0) := by
  unfold readF
  rw [if_neg (by omega), Int.toNat_natCast, hx]
  unfold laidM
  rw [List.getElem?_map, List.getElem?_range hi]
  rfl
 rw [this]
 rfl
theorem was_size {p : Nat} {m : Option Fl} (hw : WasM p m) (k : Dk) (j : Option Fl) : (p = 0 → sizeD ⟨k, fs2 m j⟩ mainN ≤ 0) ∧ (0 < p → sizeD ⟨k, fs2 m j⟩ mainN = (p : Nat)) := by
 rw [size2_main]
 refine ⟨fun h0 => ?_, fun h0 => ?_⟩
 · have := hw.1 h0
   cases m with
   | none => show (-1 : Int) ≤ 0; decide
   | some x => show ((x.now.length : Nat) : Int) ≤ 0; have : x.now.length = 0 := this; omega
 · obtain ⟨x, rfl, hx⟩ := hw.2 h0
   show ((x.now.length : Nat) : Int) = _
   rw [hx, laidM_len]
theorem back_armed {p : Nat} {m j : Option Fl} {F : FM} {c : Nat} (hC : CoreI p m j F c) {k : Dk} (hd : k.down = false) (h1 : k.at' = 1) (h2 : k.kind = 1) (h3 : k.more = 1) :
 (j = none ∧ foundJ ⟨k, fs2 m j⟩ = ((0, 0, [], false), ⟨k, fs2 m j⟩) ∧ gonJ ⟨k, fs2 m j⟩ = (0, ⟨k, fs2 m j⟩)) ∨ ∃ k', foundJ ⟨k, fs2 m j⟩ = ((11, 0, [], false), ⟨k', fs2 m j⟩) ∧ k'.down = false ∧ k'.room = k.room := by
 cases j with
 | none =>
  have hz : sizeD ⟨k, fs2 m none⟩ jnN < 0 := by rw [size2_jn]; show (-1 : Int) < 0; decide
  refine .inl ⟨rfl, ?_, by unfold gonJ; rw [if_pos hz]⟩
  have e : findJ ⟨k, fs2 m none⟩ = ((0, fm0), ⟨k, fs2 m none⟩) := by
   unfold findJ
   rw [show (max (sizeD ⟨k, fs2 m none⟩ jnN) 0).toNat = 0 by omega]
   rfl
  unfold foundJ
  rw [e]
  rfl
 | some y =>
  obtain ⟨hne, _⟩ := hC.run
  have hb : begS k jnN true = (11, { k with ops := k.ops + 1, more := k.more - 1 }) := by
   unfold begS
   rw [if_neg (by rw [jn_good]; simp), if_neg (by rw [hd]; decide), if_neg (by omega), if_neg (by omega), if_neg (by omega), if_pos (by omega)]
  have hr : readD ⟨k, fs2 m (some y)⟩ jnN ((0 : Nat) : Int) = ((⟨#[]⟩, 11), ⟨{ k with ops := k.ops + 1, more := k.more - 1 }, fs2 m (some y)⟩) := by
   unfold readD foundD
   dsimp only
   rw [hb]
   rfl
  have e : findJ ⟨k, fs2 m (some y)⟩ = ((11, fm0), ⟨{ k with ops := k.ops + 1, more := k.more - 1 }, fs2 m (some y)⟩) := by
   unfold findJ
   rw [size2_jn, max_siz, Int.toNat_natCast]
   obtain ⟨a, ha⟩ : ∃ a, lenO (some y) = a + 1 := ⟨y.now.length - 1, by have : y.now.length ≠ 0 := fun h => hne (List.eq_nil_of_length_eq_zero h); show y.now.length = _; omega⟩
   rw [ha]
   unfold findL
   dsimp only
   rw [hr]
   rfl
  refine .inr ⟨{ k with ops := k.ops + 1, more := k.more - 1 }, ?_, hd, rfl⟩
  unfold foundJ
  rw [e]
  rfl
theorem noteC_okN {D : DM} {m : Int} (h : D.OkN m) (J : JM) (p n : Int) : (noteC J D p n).2.2.OkN (m + 1) := by
 unfold noteC
 split
 · exact note_okN h J n _
 · exact h.mono (by omega)
theorem sealC_okN {D : DM} {m : Int} (h : D.OkN m) (J0 J : JM) (p n : Int) (b : Bool) : (sealC J0 J D p n b).2.2.OkN (m + 3) := by
 unfold sealC
 split
 · exact seal_okN h J
 · exact h.mono (by omega)
theorem changedL_okN (p : Int) : ∀ (L : List ChT) {J : JM} {D : DM} {b : Bool} {n : Int}, D.OkN n → (changedL p L J D b).2.OkN (n + 6 * L.length)
 | [], J, D, b, n, h => h.mono (by simp)
 | y :: L, J, D, b, n, h => by
  have ha := noteC_okN h J p (pickN y p)
  have hs := sealC_okN ha J (noteC J D p (pickN y p)).2.1 p (pickN y p) b
  have hw := write_okN hs mainN (pickN y p) (secM (pickN y p) y.2.1)
  have ht := sync_okN hw mainN
  unfold changedL
  dsimp only
  rw [List.length_cons]
  split
  · exact ha.mono (by omega)
  · split
    · exact hs.mono (by omega)
    · split
      · exact (changedL_okN p L hs).mono (by omega)
      · split
        · exact hw.mono (by omega)
        · split
          · split
            · exact ht.mono (by omega)
            · exact (changedL_okN p L ht).mono (by omega)
          · exact (changedL_okN p L hw).mono (by omega)
theorem changedD_okN (p : Int) (L : List ChT) {D : DM} {n : Int} (h : D.OkN n) : (changedD p L D).2.OkN (n + 120) := by
 have hl : (L.take 20).length ≤ 20 := by rw [List.length_take]; omega
 unfold changedD
 exact (changedL_okN p (L.take 20) h).mono (by omega)
theorem fails_start {p : Nat} {D : DM} (h : LaydR p D) (hp : p < 9) (a : Int) (L : List ChT) : LeftI p (changedD (p : Nat) L (armD D a 1 2)).2 60 ∧ sizeD (armD D a 1 2) jnN < 0 := by
 have hf := h.fs
 have hr := h.room
 obtain ⟨⟨_, down, _⟩, _, _⟩ := h
 obtain ⟨k, fs⟩ := D
 dsimp only at hf hr down
 subst hf
 obtain ⟨k', hk', e⟩ : ∃ k', K1 k' ∧ armD ⟨k, fs2 (laidF p) none⟩ a 1 2 = ⟨k', fs2 (laidF p) none⟩ := ⟨(armD ⟨k, fs2 (laidF p) none⟩ a 1 2).k, ⟨down, rfl, hr⟩, rfl⟩
 rw [e]
 have hl : (L.take 20).length ≤ 20 := by rw [List.length_take]; omega
 have hC : CoreI p (laidF p) none fm0 0 := by
  refine ⟨rfl, rfl, Int.le_refl _, fun hh => absurd rfl hh, fun q hq => (by cases hq), fun _ => ⟨rfl, rfl⟩, fun h0 => ⟨_, laidF_pos h0, by dsimp only; rw [laidM_len]; exact Nat.le_refl _, fun _ _ _ => rfl⟩, ?_, Nat.le_refl _, Nat.le_refl _⟩
  rcases Nat.eq_zero_or_pos p with h0 | h0
  · subst h0; exact Nat.zero_le _
  · rw [laidF_pos h0]; show (laidM p).length ≤ _; rw [laidM_len]; omega
 refine ⟨?_, by rw [size2_jn]; show (-1 : Int) < 0; decide⟩
 obtain ⟨k2, m2, j2, F2, e2, hk2, hC2⟩ := changed1 hp (L.take 20) (J := ⟨(p : Nat), 99, [], 0, 0⟩) (b := false) (c := 0) ⟨hC, rfl, rfl, rfl, rfl, rfl⟩ hk' (fun hh => by cases hh) (by omega)
 exact ⟨k2, m2, j2, F2, by unfold changedD; exact e2, hk2, hC2.mono (by omega)⟩
def BackR (D : DM) (e : Int) (D' : DM) : Prop :=
 if (foundJ D).1.1 ≠ 0 then e = (foundJ D).1.1 ∧ D' = (foundJ D).2
 else if (foundJ D).1.2.2.2 = true then
  ∃ ks : List Int, ks.Pairwise (· < ·) ∧ (∀ a, a ∈ ks ↔ a ∈ (firstM (foundJ D).1.2.2.1).map fun q => q.1) ∧
   (if (restoreD (foundJ D).1.2.1 (firstM (foundJ D).1.2.2.1) ks (foundJ D).2).1 ≠ 0 then e = badE (restoreD (foundJ D).1.2.1 (firstM (foundJ D).1.2.2.1) ks (foundJ D).2).1 ∧ D' = (restoreD (foundJ D).1.2.1 (firstM (foundJ D).1.2.2.1) ks (foundJ D).2).2
    else (e, D') = gonJ (restoreD (foundJ D).1.2.1 (firstM (foundJ D).1.2.2.1) ks (foundJ D).2).2)
 else (e, D') = gonJ (foundJ D).2
theorem back_first {p : Nat} {D : DM} {c : Nat} (h : LeftI p D c) {e : Int} {D' : DM} (hb : BackR (armD D 1 1 1) e D') : LeftI p D' c ∨ ∃ k m j F, D' = ⟨k, fs2 m j⟩ ∧ k.down = false ∧ k.room = 16384 ∧ CoreI p m j F c := by
 obtain ⟨k, m, j, F, rfl, hk, hC⟩ := h
 have hd : (armD ⟨k, fs2 m j⟩ 1 1 1) = ⟨{ k with at' := 1, kind := 1, more := 1 }, fs2 m j⟩ := rfl
 rw [hd] at hb
 right
 rcases back_armed hC (k := { k with at' := 1, kind := 1, more := 1 }) hk.down rfl rfl rfl with ⟨_, h1, h2⟩ | ⟨k', h1, h2, h3⟩
 · unfold BackR at hb
   rw [h1] at hb
   dsimp only at hb
   rw [if_neg (by simp), if_neg (by simp), h2] at hb
   obtain ⟨_, rfl⟩ := Prod.mk.inj hb
   exact ⟨_, m, j, F, rfl, hk.down, hk.room, hC⟩
 · unfold BackR at hb
   rw [h1] at hb
   dsimp only at hb
   rw [if_pos (by decide)] at hb
   obtain ⟨_, rfl⟩ := hb
   exact ⟨k', m, j, F, rfl, h2, h3.trans hk.room, hC⟩
theorem back_second {p : Nat} (hp : p < 9) {k : Dk} {m j : Option Fl} {F : FM} {c : Nat} (hc : c ≤ 900) (hC : CoreI p m j F c) (hd : k.down = false) (hr : k.room = 16384) {n : Int} (hok : DM.OkN ⟨k, fs2 m j⟩ n) {e : Int} {D' : DM} (hb : BackR (armD ⟨k, fs2 m j⟩ 0 0 0) e D') :
 e = 0 ∧ ∃ k' m' n', D' = ⟨k', fs2 m' none⟩ ∧ UpD D' n' ∧ WasM p m' := by
 have hok2 : DM.OkN (armD ⟨k, fs2 m j⟩ 0 0 0) n := arm_okN hok (by decide) (by decide) (by decide)
 have hda : (armD ⟨k, fs2 m j⟩ 0 0 0) = ⟨{ k with at' := 0, kind := 0, more := 0 }, fs2 m j⟩ := rfl
 rw [hda] at hb hok2
 obtain ⟨k1, f1, f2, f3, f4⟩ := back_core hp hc hC (k := { k with at' := 0, kind := 0, more := 0 }) (n := n) ⟨hok2, hd, rfl⟩ hr
 have hfj : foundJ ⟨{ k with at' := 0, kind := 0, more := 0 }, fs2 m j⟩ = ((0, F.pages, F.sure, decide (0 < F.feet)), ⟨k1, fs2 m j⟩) := by
  unfold foundJ
  rw [f1, if_neg (by simp)]
 unfold BackR at hb
 rw [hfj] at hb
 dsimp only at hb
 rw [if_neg (by simp)] at hb
 by_cases hf : 0 < F.feet
 · rw [if_pos (decide_eq_true hf)] at hb
   obtain ⟨ks, _, hks, hb⟩ := hb
   obtain ⟨k2, m2, r1, r2, r3⟩ := f3 hf ks hks
   rw [r1] at hb
   dsimp only at hb
   rw [if_neg (by simp)] at hb
   obtain ⟨k3, g1, g2⟩ := gon2 r2
   rw [g1] at hb
   obtain ⟨rfl, rfl⟩ := Prod.mk.inj hb
   exact ⟨rfl, k3, m2, _, rfl, g2, r3⟩
 · rw [if_neg (by simpa using hf)] at hb
   obtain ⟨k3, g1, g2⟩ := gon2 f2
   rw [g1] at hb
   obtain ⟨rfl, rfl⟩ := Prod.mk.inj hb
   exact ⟨rfl, k3, m, _, rfl, g2, f4 hf⟩
end Go.Proofs.YtelolcagncgfpaaGreat
namespace Go.Proofs.YtelolcagncgfpaaGreat
open Go.RowKit
set_option linter.unusedSimpArgs false
set_option linter.unusedVariables false
structure WS where
 i : Nat
 D : DM
 S : Nat → Prop
structure WasR (p : Nat) (m : Option Fl) (n : Int) (k : WS) : Prop where
 le : k.i ≤ p
 ex : ∃ q, k.D = ⟨q, fs2 m none⟩
 up : UpD k.D (n + (k.i : Nat))
theorem WasR.step {p : Nat} {m : Option Fl} {n : Int} {i : Nat} {D D' : DM} {S S' : Nat → Prop} (h : WasR p m n ⟨i, D, S⟩) (hw : WasM p m) (hi : i < p) {a : ByteArray × Int} (hr : (a, D') = readD D mainN (i : Nat)) :
 a.1 = secM (i : Nat) (i : Nat) ∧ a.2 = 0 ∧ WasR p m n ⟨i + 1, D', S'⟩ := by
 obtain ⟨q, hq⟩ := h.ex
 dsimp only at hq
 subst hq
 obtain ⟨e, hu⟩ := was_read hw (by omega) h.up hi
 have h2 := hr.trans e
 have ha := congrArg Prod.fst h2
 have hD := congrArg Prod.snd h2
 dsimp only at ha hD
 subst hD
 obtain ⟨s1, e1⟩ := a
 obtain ⟨h5, h6⟩ := Prod.mk.inj ha
 refine ⟨h5, h6, ⟨?_, ?_, ?_⟩⟩
 · exact hi
 · exact ⟨_, rfl⟩
 · have he : n + ((i : Nat) : Int) + 1 = n + ((i + 1 : Nat) : Int) := by omega
   rw [he] at hu
   exact hu
theorem findL_okN : ∀ (m i : Nat) (F : FM) {D : DM} {n : Int}, D.OkN n → (findL m i F D).2.OkN (n + m)
 | 0, _, _, D, n, h => h.mono (by simp)
 | m + 1, i, F, D, n, h => by
  have h1 := read_okN h jnN (i : Nat)
  unfold findL
  dsimp only
  split
  · exact h1.mono (by omega)
  · cases stepF F (readD D jnN (i : Nat)).1.1 (decide (i = 0)) with
    | none => exact h1.mono (by omega)
    | some F' => exact (findL_okN m (i + 1) F' h1).mono (by omega)
theorem foundJ_okN {D : DM} {n : Int} (h : D.OkN n) (hn : n ≤ 900000) : (foundJ D).2.OkN (n + 16384) := by
 have hb := sizeD_bound (up_ok h (by omega)) jnN
 have h1 := findL_okN (max (sizeD D jnN) 0).toNat 0 fm0 h
 have h2 : (findJ D).2.OkN (n + 16384) := by unfold findJ; exact h1.mono (by omega)
 unfold foundJ
 split <;> exact h2
structure FGood (F : FM) : Prop where
 pages : 0 ≤ F.pages ∧ F.pages ≤ 4096
 all : ∀ q ∈ F.sure ++ F.loose, 0 ≤ q.1 ∧ q.1 < 4096
theorem stepF_good {F F' : FM} {s : ByteArray} {b : Bool} (h : FGood F) (hs : stepF F s b = some F') : FGood F' ∧ (F'.sure ++ F'.loose).length ≤ (F.sure ++ F.loose).length + 1 := by
 unfold stepF at hs
 split at hs
 · unfold addF at hs
   dsimp only at hs
   split at hs
   · cases hs
   · split at hs
     · split at hs
       · rename_i hn
         cases hs
         refine ⟨⟨h.pages, fun q hq => ?_⟩, by simp; omega⟩
         rcases List.mem_append.1 hq with hq | hq
         · exact h.all q (List.mem_append.2 (.inl hq))
         · rcases List.mem_append.1 hq with hq | hq
           · exact h.all q (List.mem_append.2 (.inr hq))
           · obtain rfl := List.mem_singleton.1 hq
             exact ⟨by dsimp only; omega, hn⟩
       · cases hs
     · split at hs
       · split at hs
         · cases hs
         · rename_i hn
           cases hs
           refine ⟨⟨⟨by dsimp only; omega, by dsimp only; omega⟩, fun q hq => h.all q (by simpa using hq)⟩, by simp⟩
       · cases hs
 · cases hs
theorem findL_good : ∀ (m i : Nat) (F : FM) (D : DM), FGood F → FGood (findL m i F D).1.2 ∧ ((findL m i F D).1.2.sure ++ (findL m i F D).1.2.loose).length ≤ (F.sure ++ F.loose).length + m
 | 0, _, _, _, h => ⟨h, by simp [findL]⟩
 | m + 1, i, F, D, h => by
  unfold findL
  dsimp only
  split
  · exact ⟨h, by dsimp only; omega⟩
  · cases hs : stepF F (readD D jnN (i : Nat)).1.1 (decide (i = 0)) with
    | none => exact ⟨h, by dsimp only; omega⟩
    | some F' =>
     obtain ⟨h1, h2⟩ := stepF_good h hs
     obtain ⟨h3, h4⟩ := findL_good m (i + 1) F' (readD D jnN (i : Nat)).2 h1
     exact ⟨h3, by dsimp only; omega⟩
theorem foundJ_good {D : DM} {n : Int} (h : D.OkN n) (hn : n ≤ 900000) : (0 ≤ (foundJ D).1.2.1 ∧ (foundJ D).1.2.1 ≤ 4096) ∧ (∀ q ∈ (foundJ D).1.2.2.1, 0 ≤ q.1 ∧ q.1 < 4096) ∧ (foundJ D).1.2.2.1.length ≤ 16384 := by
 have hb := sizeD_bound (up_ok h (by omega)) jnN
 obtain ⟨h1, h2⟩ := findL_good (max (sizeD D jnN) 0).toNat 0 fm0 D ⟨⟨by decide, by decide⟩, fun q hq => by simp [fm0] at hq⟩
 unfold foundJ
 split
 · exact ⟨⟨by dsimp only; omega, by dsimp only; omega⟩, (fun q hq => by cases hq), Nat.zero_le _⟩
 · refine ⟨h1.pages, fun q hq => h1.all q (List.mem_append.2 (.inl hq)), ?_⟩
   have h3 : (fm0.sure ++ fm0.loose).length = 0 := rfl
   have h4 : (findJ D).1.2.sure.length ≤ ((findJ D).1.2.sure ++ (findJ D).1.2.loose).length := by rw [List.length_append]; omega
   unfold findJ at h4 ⊢
   dsimp only
   omega
def ResR (D : DM) (p : Int) (l : List Pg) (N : Int) (e : Int) (D' : DM) : Prop :=
 D'.OkN (N + 20000) ∧ ∃ ks : List Int, ks.Pairwise (· < ·) ∧ (∀ a, a ∈ ks ↔ a ∈ (firstM l).map fun q => q.1) ∧ (e, D') = restoreD p (firstM l) ks D
attribute [local irreducible] numOf fixedL bytesOf strOf strEq strLt sfrom closeS closeE layD footS writeD sizeD syncD dropD readD bytesD noteJ sealJ gonJ findJ foundJ pgS newD fullS secM onD offD fs2 syncF sizO restoreD firstM ResR BackR
theorem cvJrnRestAll1 {p : Prop} (h : p := by have nw := True.intro; (repeat' (first | exact True.intro | (with_reducible exact rfl) | (with_reducible exact AbsLe.refl) | (guard_target =~ @Eq Nat _ _; first | exact rfl | omega) | (guard_target =~ List.map _ _ = []; exact rfl) | (first | (guard_target =~ @Eq (List Value) _ _; exact rfl) | exact covL_of rfl (flat_bind (f := pgv) (fun _ => rfl) _) | exact covL_of rfl (flat_map (fun _ => rfl) _) | first | exact covL_still rfl hvs | exact covL_still rfl (still_map (fun _ => rfl) _) | exact covL_still rfl (still_map ro_still _) | (apply covL_set <;> (try clear nw) <;> have nw := True.intro) | exact congrArg (Value.int _) (by (try dsimp only); omega)) | (exact congrArg (Value.int _) (by omega)) | (exact covL_flat (flat_map (fun _ => rfl) _)) | (exact covL_flat flat_nil) | (refine covP_all ?_; (try clear nw); have nw := True.intro) | (refine covL_each ?_; (try clear nw); have nw := True.intro) | (refine ⟨?_, ?_⟩ <;> (try clear nw) <;> have nw := True.intro) | (guard_hyp nw : True; ((conv => whnf) <;> clear nw)))); (first | done | fail)) : p := h
theorem rnJrnRestAll2 {p : Prop} (h : p := by refine ⟨?_, ?_, ?_⟩; (first | apply rR_tuple | apply rR_one rfl | exact rfl); all_goals (repeat' (first | (with_reducible (first | exact relH_nil | apply rn_lst | apply rn_own | apply rn_mp | apply rn_row | apply rn_abs | exact wo_nil)) | apply wo_keep rfl | apply wo_drop rfl | exact relH_nil | exact r1_flat rfl | exact r0_flat rfl | exact rl_nil | exact wo_nil | exact bk_old rfl | exact bk_new rfl | exact bk_nil rfl | apply rl_cons | (first | exact relL_flat (flat_bind (f := pgv) (fun _ => rfl) _) | exact relL_flat (flat_map (fun _ => rfl) _) | first | exact relL_still hvs | exact relL_still (still_map (fun _ => rfl) _) | exact relL_still (still_map ro_still _) | exact relL_flat (flat_map (fun _ => rfl) _) | apply relL_set) | exact relL_flat (flat_map (fun _ => rfl) _) | exact relL_flat flat_nil | apply relL_to | apply rn_lst | apply rn_own | apply rn_mp | apply rn_row | apply relH_view rfl | apply relH_lview rfl | apply relH_fact rfl | exact r1_rig | exact r0_rig | exact r1_rigs | exact r0_rigs | apply wo_keep rfl | apply wo_drop rfl | apply r1_agg | apply rn_ptr | apply rn_slice | apply rn_slice0 | apply rn_iface | apply rn_map | apply rn_ifacem | apply r0_map | apply r0_ifacem | apply r0_ptr | apply r0_slice | apply r0_slice0 | apply r0_iface)); (first | done | fail)) : p := h
theorem bad_c (e : Int) : CallOb Tryz.prog 43 [iv e] [] 0 (fun v h m => ∃ z : Int, z = badE e ∧ v = iv z ∧ h = [] ∧ m = 0) := by
 refine call_spec tabOk mixed Tryz.call43 Tryz.func43 rfl [] (fun z : Int => z = badE e) (fun z => iv z) (fun _ => []) (fun _ => 0) ?_ ?_
 · exact (Nat.le_of_ble_eq_true rfl)
 (repeat' ((try (conv => whnf)); first | (guard_target =~ ∃ (_ : Value), ∃ (_ : HP), ∃ (_ : HP), _; refine ⟨_, _, _, rnJrnRestAll2, ?_⟩; (try (dsimp only [Nat.reduceAdd, bC, bL]))) | (fail) | (with_reducible first | refine chk_in (Nat.ble_eq_true_of_le omT) ?_ | (refine ifB_in ?_ ?_ <;> intro hb <;> (try simp only [bN1, bN2, bN3, bN4, bN5, bN6, bN7, bN8, bN9, bN0] at hb) <;> (try (exfalso; omega))) | refine ⟨_, w64b _, ?_⟩ | refine ⟨_, w64 omT omT, ?_⟩ | refine ⟨_, wu64 omT omT, ?_⟩ | refine ⟨_, wu8 omT omT, ?_⟩ | refine ⟨_, w64 szT szT, ?_⟩ | refine ⟨_, rfl, ?_⟩ | refine ⟨rfl, ?_⟩) | intro cap | (with_reducible refine ⟨trivial, ?_⟩) | (guard_target =~ (planChk _ _ = true) ∧ _; refine ⟨by kernel_rfl, ?_⟩) | (guard_target =~ (_ ∧ _) ∧ _; refine ⟨by ((repeat (first | exact trivial | refine ⟨rfl, ?_⟩)); (first | done | fail)), ?_⟩) | refine ⟨by omega, ?_⟩ | refine ⟨szT, ?_⟩ | refine ⟨0, rfl, ?_⟩ | refine ⟨1, rfl, ?_⟩ | refine ⟨2, rfl, ?_⟩ | refine ⟨3, rfl, ?_⟩ | refine ⟨4, rfl, ?_⟩ | refine ⟨5, rfl, ?_⟩ | (refine cell_at1 (by assumption) ?_) | (refine cell_in1 omT (fun x hx => ?_)) | fail)) <;> (try (conv => whnf))
 all_goals first
  | ((refine Ends.go (30) ?_ [] (Fit.q cvJrnRestAll1 (by rfl) (by rfl))); unfold badE; rw [if_pos hb])
  | ((refine Ends.go (e) ?_ [] (Fit.q cvJrnRestAll1 (by rfl) (by rfl))); unfold badE; rw [if_neg hb])
  | trace_state
def RestoreOb : Prop := ∀ (S : Nat → Prop) (D : DM) (N : Int), D.OkN N → N ≤ 900000 → ∀ (p : Int) (l : List Pg) (cap : Nat), l.length ≤ cap → l.length ≤ 16384 → (0 ≤ p ∧ p ≤ 4096) → (∀ q ∈ l, 0 ≤ q.1 ∧ q.1 < 4096) →
 CallOb Tryz.prog 42 [ptr 0, iv p, mslice 1 l.length cap] [(0, diskI S D), (1, .lview (l.flatMap pgv))] 2 (fun v h m => ∃ x : Int × DM × (Nat → Prop), ResR D p l N x.1 x.2.1 ∧ v = iv x.1 ∧ h = [(0, diskI x.2.2 x.2.1)] ∧ m = 400)
theorem back_err {D D' : DM} {e : Int} {r : Int × List Pg × Bool} (h : ((e, r), D') = foundJ D) (he : ¬ e = 0) : BackR D e D' := by
 unfold BackR
 rw [← h, if_pos he]
 exact ⟨rfl, rfl⟩
theorem back_none {D D' D2 : DM} {e e2 pg : Int} {sr : List Pg} (h : ((e, pg, sr, false), D') = foundJ D) (he : e = 0) (hg : (e2, D2) = gonJ D') : BackR D e2 D2 := by
 unfold BackR
 rw [← h, if_neg (fun hh => hh he), if_neg (by simp)]
 exact hg
theorem back_bad {D D' D2 : DM} {e e2 pg N : Int} {sr : List Pg} (h : ((e, pg, sr, true), D') = foundJ D) (he : e = 0) (hr : ResR D' pg sr N e2 D2) (h2 : ¬ e2 = 0) : BackR D (badE e2) D2 := by
 unfold ResR at hr
 obtain ⟨_, ks, hk1, hk2, hk3⟩ := hr
 unfold BackR
 rw [← h, if_neg (fun hh => hh he), if_pos rfl]
 refine ⟨ks, hk1, hk2, ?_⟩
 dsimp only
 rw [← hk3, if_pos h2]
 exact ⟨rfl, rfl⟩
theorem back_ok {D D' D2 D3 : DM} {e e2 e3 pg N : Int} {sr : List Pg} (h : ((e, pg, sr, true), D') = foundJ D) (he : e = 0) (hr : ResR D' pg sr N e2 D2) (h2 : e2 = 0) (hg : (e3, D3) = gonJ D2) : BackR D e3 D3 := by
 unfold ResR at hr
 obtain ⟨_, ks, hk1, hk2, hk3⟩ := hr
 unfold BackR
 rw [← h, if_neg (fun hh => hh he), if_pos rfl]
 refine ⟨ks, hk1, hk2, ?_⟩
 dsimp only
 rw [← hk3, if_neg (fun hh => hh h2)]
 exact hg
theorem gonJ_okN {D : DM} {n : Int} (h : D.OkN n) : (gonJ D).2.OkN (n + 1) := by
 unfold gonJ
 split
 · exact h.mono (by omega)
 · exact drop_okN h jnN
theorem wrap_u {n : Int} {K : Int → Prop} (h : ∀ r, 0 ≤ r → r ≤ 18446744073709551615 → K r) : ∃ r, r = IntKind.u64.wrap n ∧ K r := ⟨_, rfl, h _ (by rw [IntKind.wrap_u64]; omega) (by rw [IntKind.wrap_u64]; omega)⟩
theorem rem_u {a : Int} {d : Nat} {K : Int → Prop} (h0 : 0 ≤ a) (hd : 0 < d) (h : ∀ q : Nat, q < d → K (q : Int)) : ∃ r, r = a.tmod (d : Int) ∧ K r := by
 refine ⟨_, rfl, ?_⟩
 obtain ⟨b, rfl⟩ := Int.eq_ofNat_of_zero_le h0
 have e : (b : Int).tmod (d : Int) = ((b % d : Nat) : Int) := by rw [Int.tmod_eq_emod_of_nonneg h0]; norm_cast
 rw [e]
 exact h _ (Nat.mod_lt _ hd)
theorem ResR.okN {D D' : DM} {p N e : Int} {l : List Pg} (h : ResR D p l N e D') : D'.OkN (N + 20000) := by unfold ResR at h; exact h.1
set_option maxRecDepth 100000 in
theorem back_c (hres : RestoreOb) (S : Nat → Prop) (D : DM) {N : Int} (hD : D.OkN N) (hN : N ≤ 800000) :
 CallOb Tryz.prog 14 [ptr 0] [(0, diskI S D)] 1 (fun v h m => ∃ x : Int × DM × (Nat → Prop), (BackR D x.1 x.2.1 ∧ x.2.1.OkN (N + 40000)) ∧ v = iv x.1 ∧ h = [(0, diskI x.2.2 x.2.1)] ∧ m = 600) := by
 unfold RestoreOb at hres
 refine call_spec tabOk mixed Tryz.call14 Tryz.func14 rfl [] (fun x : Int × DM × (Nat → Prop) => BackR D x.1 x.2.1 ∧ x.2.1.OkN (N + 40000)) (fun x => iv x.1) (fun x => [(0, diskI x.2.2 x.2.1)]) (fun _ => 600) ?_ ?_
 · exact (Nat.le_of_ble_eq_true rfl)
 (repeat' ((try (conv => whnf)); first | (guard_target =~ ∃ (_ : Value), ∃ (_ : HP), ∃ (_ : HP), _; refine ⟨_, _, _, rnJrnRestAll2, ?_⟩; (try (dsimp only [Nat.reduceAdd, bC, bL]))) | (guard_target =~ CallOb _ 11 _ _ _ _; refine call_q (find_c S D hD omT) [(0, some 0)] cvJrnRestAll1 rfT rfT rfT (fun v h1 n1 hp => ?_); obtain ⟨⟨⟨e5, pg, sr, is⟩, D5, S5, cp⟩, ⟨hr5, hcp⟩, rfl, rfl, rfl⟩ := hp; dsimp only at hr5 hcp; have hk5 := foundJ_okN hD omT; have hg5 := foundJ_good hD omT; rw [← hr5] at hk5 hg5; dsimp only at hk5 hg5; cases is <;> (try (dsimp only [Nat.reduceAdd, bC, bL]))) | (guard_target =~ CallOb _ 42 _ _ _ _; refine call_q (hres S5 D5 _ hk5 omT pg sr cp hcp hg5.2.2 hg5.1 hg5.2.1) [(0, some 0), (1, some 61)] cvJrnRestAll1 rfT rfT rfT (fun v h1 n1 hp => ?_); obtain ⟨⟨e6, D6, S6⟩, hr6, rfl, rfl, rfl⟩ := hp; dsimp only at hr6; have hk6 := hr6.okN; (try (dsimp only [Nat.reduceAdd, bC, bL]))) | (guard_target =~ CallOb _ 43 _ _ _ _; refine call_q (bad_c e6) [] cvJrnRestAll1 rfT rfT rfT (fun v h1 n1 hp => ?_); obtain ⟨zb, hzb, rfl, rfl, rfl⟩ := hp; (try (dsimp only [Nat.reduceAdd, bC, bL]))) | (guard_target =~ CallOb _ 44 _ _ _ _; first | (guard_hyp hk6 : DM.OkN D6 _; refine call_q (gon_c S6 D6 hk6 omT) [(0, some 0)] cvJrnRestAll1 rfT rfT rfT (fun v h1 n1 hp => ?_); obtain ⟨⟨e7, D7, S7⟩, hg7, rfl, rfl, rfl⟩ := hp; dsimp only at hg7; (try (dsimp only [Nat.reduceAdd, bC, bL]))) | (refine call_q (gon_c S5 D5 hk5 omT) [(0, some 0)] cvJrnRestAll1 rfT rfT rfT (fun v h1 n1 hp => ?_); obtain ⟨⟨e7, D7, S7⟩, hg7, rfl, rfl, rfl⟩ := hp; dsimp only at hg7; (try (dsimp only [Nat.reduceAdd, bC, bL])))) | (with_reducible first | refine chk_in (Nat.ble_eq_true_of_le omT) ?_ | (refine ifB_in ?_ ?_ <;> intro hb <;> (try simp only [bN1, bN2, bN3, bN4, bN5, bN6, bN7, bN8, bN9, bN0] at hb) <;> (try (exfalso; omega))) | refine ⟨_, w64b _, ?_⟩ | refine ⟨_, w64 omT omT, ?_⟩ | refine ⟨_, wu64 omT omT, ?_⟩ | refine ⟨_, wu8 omT omT, ?_⟩ | refine ⟨_, w64 szT szT, ?_⟩ | refine ⟨_, rfl, ?_⟩ | refine ⟨rfl, ?_⟩) | intro cap | (with_reducible refine ⟨trivial, ?_⟩) | (guard_target =~ (planChk _ _ = true) ∧ _; refine ⟨by kernel_rfl, ?_⟩) | (guard_target =~ (_ ∧ _) ∧ _; refine ⟨by ((repeat (first | exact trivial | refine ⟨rfl, ?_⟩)); (first | done | fail)), ?_⟩) | refine ⟨by omega, ?_⟩ | refine ⟨szT, ?_⟩ | refine ⟨0, rfl, ?_⟩ | refine ⟨1, rfl, ?_⟩ | refine ⟨2, rfl, ?_⟩ | refine ⟨3, rfl, ?_⟩ | refine ⟨4, rfl, ?_⟩ | refine ⟨5, rfl, ?_⟩ | (refine cell_at1 (by assumption) ?_) | (refine cell_in1 omT (fun x hx => ?_)) | fail)) <;> (try (conv => whnf))
 all_goals first
  | (guard_hyp hb : ¬ e5 = 0; (refine Ends.go ((e5, D5, S5)) ?_ [(0, some 0)] (Fit.q cvJrnRestAll1 (by rfl) (by rfl))); exact ⟨back_err hr5 hb, hk5.mono (by omega)⟩)
  | (guard_hyp hb : ¬ e6 = 0; (refine Ends.go ((zb, D6, S6)) ?_ [(0, some 0)] (Fit.q cvJrnRestAll1 (by rfl) (by rfl))); dsimp only; rw [hzb]; exact ⟨back_bad hr5 ‹e5 = 0› hr6 hb, hk6.mono (by omega)⟩)
  | (guard_hyp hk6 : DM.OkN D6 _; (refine Ends.go ((e7, D7, S7)) ?_ [(0, some 0)] (Fit.q cvJrnRestAll1 (by rfl) (by rfl))); have hk7 := gonJ_okN hk6; rw [← hg7] at hk7; exact ⟨back_ok hr5 ‹e5 = 0› hr6 ‹e6 = 0› hg7, hk7.mono (by omega)⟩)
  | ((refine Ends.go ((e7, D7, S7)) ?_ [(0, some 0)] (Fit.q cvJrnRestAll1 (by rfl) (by rfl))); have hk7 := gonJ_okN hk5; rw [← hg7] at hk7; exact ⟨back_none hr5 ‹e5 = 0› hg7, hk7.mono (by omega)⟩)
  | trace_state
end Go.Proofs.YtelolcagncgfpaaGreat
namespace Go.Proofs.YtelolcagncgfpaaGreat
open Go.RowKit
set_option linter.unusedSimpArgs false
set_option linter.unusedVariables false
def noDef (o : Oper) : Bool := match o.op with | .defer _ => false | _ => true
theorem oper_in {l k : Nat} {P : Program} {o : Oper} {a : Act} {w : World} {next : Act → World → Prop} {Q : Exit → Act → World → Prop} (hd : noDef o = true) (h : o.wp P a w next Q) : o.wpIn (Fence.wide.inRound l) k P a w next Q := by
 refine ⟨fun _ _ => trivial, ?_⟩
 rw [Oper.semAt_plain _ _ _ (fun c hc => by unfold noDef at hd; rw [hc] at hd; cases hd)]
 unfold Oper.wp at h
 generalize (execOp a.eval o).run P w = r at h
 unfold Oper.upon at h
 unfold Oper.uponIn
 split at h
 · exact h
 · exact h
 · exact h
 · refine ⟨fun e => by simp [Fence.wide] at e, ?_⟩
   exact (callsIn_wide (n := k - 1)).2 h
 · refine ⟨fun e => by simp [Fence.wide] at e, ?_⟩
   exact fun c cs _ => let ⟨v, w', r, s⟩ := h c cs; ⟨v, w', r, stepsIn_wide.2 s⟩
 · exact h
 · exact h.elim
theorem list_in {l k : Nat} {P : Program} {ops : Array Oper} {Q : Exit → Act → World → Prop} (hQ : ¬ LetsOut Q) : ∀ {r : List Oper} {a : Act} {w : World}, r.all noDef = true → wpList P ops Q r a w → wpListIn (Fence.wide.inRound l) k P ops Q r a w
 | [], a, w, _, h => h
 | o :: r, a, w, hd, h => by
  rw [List.all_cons, Bool.and_eq_true] at hd
  unfold wpList at h
  unfold wpListIn
  by_cases hw : Region.wanted o (yielded ops a.tmps) = true
  · rw [if_pos hw] at h ⊢
    rcases h with h | ⟨_, h⟩
    · exact oper_in hd.1 (Oper.wp_mono (fun a' w' h' => list_in hQ hd.2 h') h)
    · exact absurd h hQ
  · rw [if_neg hw] at h ⊢
    exact ⟨fun _ _ => trivial, list_in hQ hd.2 h⟩
theorem vc_in {P : Program} {T : Tab} (hT : TabOk P T) {N np id l k : Nat} {pl : Plans} {ops : Array Oper} (hd : ops.toList.all noDef = true) {K : TM → HP → Nat → Prop} {t : TM} {h : HP} {n : Nat}
 (hv : vc P T N np pl (.region id ops false) (fun e t h n => match e with | .normal => K t h n | _ => False) t h n) {F : Nat → Prop} {B : Nat} {w0 : World} {m : BM} {w : World} {a : Act} (H : HRel F B w0 m h n w) (ht : TD [] m N t a) :
 (Code.region id ops false).wpIn (Fence.wide.inRound l) k P (fun e a' w' => e = .normal ∧ ∃ m' t' h' n', m.le m' ∧ HRel F B w0 m' h' n' w' ∧ TD [] m' N t' a' ∧ K t' h' n') a w := by
 refine wpIn_region_list (list_in ?_ hd (vcOps_ok hT hv [] F B w0 m w a _ H ht fun m' t' h' n' a' w' hm H' ht' hk => ⟨rfl, m', t', h', n', hm, H', ht', hk⟩))
 rintro ⟨a', w', h, _⟩
 cases h
section
variable {F : Nat → Prop} {B : Nat} {w0 : World} {m : BM} {h : HP} {n : Nat} {w : World}
theorem HRel.other (H : HRel F B w0 m h n w) {w' : World} (hk : Keep F B w w') (hs : ∀ i it g s b, lkH h i = some it → m i g s → it.blk g s b → w'.heap[b]? = w.heap[b]?) : HRel F B w0 m h n w' :=
 ⟨H.keep.trans hk, H.base, H.fn, H.fresh, fun i it e => let ⟨g, s, x, y⟩ := H.dom i it e; ⟨g, s, x, y.same hk.size fun b hb _ => hs i it g s b e x hb⟩, H.sep⟩
theorem HRel.put1 (H : HRel F B w0 m h n w) (g s : Nat) (it : Itm) (ok : ItmOk F B (m.put n g s) w g s it) (hd : ∀ i jt g' s' b, lkH h i = some jt → m i g' s' → jt.blk g' s' b → ¬ it.blk g s b) : HRel F B w0 (m.put n g s) ((n, it) :: h) (n + 1) w :=
 (HAcc.add (U := fun b => ∃ i jt g' s', lkH h i = some jt ∧ m i g' s' ∧ jt.blk g' s' b) ⟨H, fun i it g s b e x hb => ⟨i, it, g, s, e, x, hb⟩⟩ g s it ok fun b hb ⟨i, jt, g', s', e, x, hb'⟩ => hd i jt g' s' b e x hb' hb).H
theorem HRel.lt (H : HRel F B w0 m h n w) {i : Nat} {it : Itm} {g s b : Nat} (e : lkH h i = some it) (x : m i g s) (hb : it.blk g s b) : b < w.heap.size := (H.at e x).lt hb
end
def markS (D : Nat) : Nat → Prop := fun b => b = D
def markI (D : Nat) : Itm := .abs false (markS D) (fun _ w => w.heap[D]? = some (.deferred (some [])))
theorem markI_ok {F : Nat → Prop} {B : Nat} {m : BM} {w : World} {D : Nat} (h : w.heap[D]? = some (.deferred (some []))) : ItmOk F B m w D 0 (markI D) :=
 ⟨.inr rfl, fun b hb => by rw [show b = D from hb]; exact lt_of_block h, fun e => (by cases e), fun w w' _ hs h => (hs D rfl).trans h, h⟩
abbrev markD (D : Nat) : Deferred := { target := .collected D, args := #[] }
end Go.Proofs.YtelolcagncgfpaaGreat
namespace Go.Proofs.YtelolcagncgfpaaGreat
open Go.RowKit Go.Shelf
set_option linter.unusedSimpArgs false
set_option linter.unusedVariables false
attribute [local go_sem] Oper.semAt_some
def BwZ (Bs : Nat) (p : Option Addr) (b off len cap : Nat) (c : Nat → Int × ByteArray) (W : World) : Prop :=
 W.cell? ⟨Bs, 0, none⟩ = some (.slice p len cap) ∧ ∀ j, j < len → W.cell? ⟨b, off + j * 2, none⟩ = some (.int .i64 (c j).1) ∧ W.cell? ⟨b, off + j * 2 + 1, none⟩ = some (.string (c j).2)
def bwTo (len k : Nat) : List Nat := (List.range k).map fun i => len - 1 - i
theorem bwTo_succ (len k : Nat) : bwTo len (k + 1) = bwTo len k ++ [len - 1 - k] := by simp [bwTo, List.range_succ]
theorem bwTo_length (len k : Nat) : (bwTo len k).length = k := by simp [bwTo]
def bwEnc (c : Nat → Int × ByteArray) (j : Nat) : Array Value := #[.int .i64 (j : Int), .agg #[.int .i64 (c j).1, .string (c j).2]]
set_option maxRecDepth 100000 in
set_option maxHeartbeats 4000000 in
theorem bw1_in (F : Fence) (n : Nat) (hf : F.fn 90) (hro : F.round = none) (hn : 1 ≤ n) (l Bs : Nat) (p : Option Addr) (b off len cap : Nat) (hp : 0 < len → p = some ⟨b, off, none⟩) (c : Nat → Int × ByteArray) (hlen : len ≤ 1000000) (J Jx : List Nat → World → Prop)
 (hY : ∀ pre x W, J pre W → pre.length < len → YieldAt F (n - 1) Tryz.prog l (bwEnc c x) W fun e W' =>
  (e = .returned (.bool true) ∧ J (pre ++ [x]) W' ∧ (BwZ Bs p b off len cap c W → BwZ Bs p b off len cap c W')) ∨ (e = .returned (.bool false) ∧ Jx (pre ++ [x]) W'))
 (W : World) (hZ : BwZ Bs p b off len cap c W) (h0 : J [] W) :
 CallsIn F n Tryz.prog 90 #[.func (.yield l) #[] #[], .pointer (some ⟨Bs, 0, none⟩)] W fun e W' => (∃ v, e = .returned v) ∧
  ((∃ ys, ys = bwTo len len ∧ J ys W') ∨ (∃ pre, True ∧ Jx pre W')) := by
 have hB := hZ.1
 refine callsIn_of_wp Tryz.func90 rfl hf ?_ hro
 simp only [Tryz.ntmps90, List.size_toArray, List.length_cons, List.length_nil, Nat.reduceAdd, Nat.reduceSub, Array.replicate_succ, Array.replicate_zero, List.push_toArray, List.append_toArray, List.nil_append, List.cons_append]
 gi_wp2
 gi_loopw [3] (fun i wr => ∃ k : Nat, k ≤ len ∧ i = .int .i64 ((len : Int) - 1 - k) ∧ J (bwTo len k) wr ∧ BwZ Bs p b off len cap c wr)
  (fun i _ => (intOf i + 1).toNat)
 case atStart => exact ⟨0, Nat.zero_le _, by simp, h0, hZ⟩
 case round =>
  obtain ⟨k, hk, rfl, hJs, hZ1⟩ := hrel
  have hB1 := hZ1.1
  by_cases hlt : k < len
  · obtain rfl := hp (by omega)
    have hc1 := (hZ1.2 (len - 1 - k) (by omega)).1
    have hc2 := (hZ1.2 (len - 1 - k) (by omega)).2
    obtain ⟨fn, tmps, assign, body, hy, hR⟩ := hY _ (len - 1 - k) wr hJs (by rw [bwTo_length]; exact hlt)
    have e1 : ((len - 1 - k : Nat) : Int) = (len : Int) - 1 - k := by omega
    unfold bwEnc at hy
    rw [e1] at hy
    gi_wp2
    refine hR.mono ?_
    rintro e W3 (⟨rfl, hJ3, hk3⟩ | ⟨rfl, hJx3⟩)
    · have hZ3 := hk3 hZ1
      gi_wp2
      go_roundw
      case rel => exact ⟨k + 1, by omega, by congr 1; omega, by rw [bwTo_succ]; exact hJ3, hZ3⟩
      case measure => simp [intOf]; omega
    · gi_wp2
      refine bodyPost_ret (results_none rfl _ _ _) rfl ?_
      exact ⟨⟨_, rfl⟩, .inr ⟨_, trivial, hJx3⟩⟩
  · obtain rfl : k = len := by omega
    gi_wp2
    go_end0
    exact ⟨⟨_, rfl⟩, .inl ⟨_, rfl, hJs⟩⟩
theorem BwZ.below {Bs : Nat} {p : Option Addr} {b off len cap : Nat} {c : Nat → Int × ByteArray} {n : Nat} {W W' : World} (h : BwZ Bs p b off len cap c W) (hb : ∀ k, k = Bs ∨ (k = b ∧ 0 < len) → W'.heap[k]? = W.heap[k]?) : BwZ Bs p b off len cap c W' :=
 ⟨(World.cell?_of_block (hb _ (.inl rfl))).trans h.1, fun j hj => ⟨(World.cell?_of_block (hb _ (.inr ⟨rfl, by omega⟩))).trans (h.2 j hj).1, (World.cell?_of_block (hb _ (.inr ⟨rfl, by omega⟩))).trans (h.2 j hj).2⟩⟩
theorem bw_stops (F : Fence) (n : Nat) (hf : F.fn 90) (hro : F.round = none) (hn : 1 ≤ n) (Bs : Nat) (p : Option Addr) (b off len cap : Nat) (hp : 0 < len → p = some ⟨b, off, none⟩) (c : Nat → Int × ByteArray) (hlen : len ≤ 1000000)
 (w : World) (hBs : Bs < w.heap.size) (hb : 0 < len → b < w.heap.size) (hZ : BwZ Bs p b off len cap c w) :
 SeqStopsK F n Tryz.prog 90 #[.pointer (some ⟨Bs, 0, none⟩)] (bwEnc c) (fun A B => BwZ Bs p b off len cap c A → BwZ Bs p b off len cap c B) (fun ys => ys = bwTo len len) (fun _ => True) len w := fun l J Jx W hW _ _ hY h0 =>
 bw1_in F n hf hro hn l Bs p b off len cap hp c hlen J Jx hY W (hZ.below (n := 0) fun k hk => hW.block k (by rcases hk with rfl | ⟨rfl, h⟩; exact hBs; exact hb h)) h0
end Go.Proofs.YtelolcagncgfpaaGreat
namespace Go.Proofs.YtelolcagncgfpaaGreat
open Go.RowKit Go.MapKept
set_option linter.unusedSimpArgs false
set_option linter.unusedVariables false
def pgc (l : List Pg) (j : Nat) : Int × ByteArray := l[j]?.getD (0, ⟨#[]⟩)
def rgM (c : Nat → Int × ByteArray) (pre : List Nat) : List Pg := pre.foldl (fun M j => putP M (c j).1 (c j).2) []
theorem rgM_snoc (c : Nat → Int × ByteArray) (pre : List Nat) (x : Nat) : rgM c (pre ++ [x]) = putP (rgM c pre) (c x).1 (c x).2 := by simp [rgM]
theorem rgM_all (l : List Pg) : rgM (pgc l) (bwTo l.length l.length) = firstM l := by
 have e : (bwTo l.length l.length).map (pgc l) = l.reverse := by
  apply List.ext_getElem
  · simp [bwTo]
  · intro i h1 h2
    have hi : i < l.length := by simpa [bwTo] using h1
    simp [bwTo, pgc, List.getElem?_eq_getElem (show l.length - 1 - i < l.length by omega), List.getElem_reverse]
 unfold rgM firstM
 rw [← List.foldl_reverse, ← e, List.foldl_map]
abbrev kvP (q : Pg) : Value := iv q.1
abbrev dvP (q : Pg) : Value := .string q.2
theorem putP_old {n : Int} {d : ByteArray} : ∀ {M : List Pg} {j : Nat}, FirstAt (M.map kvP) (iv n) j → (putP M n d).map kvP = M.map kvP ∧ (putP M n d).map dvP = (M.map dvP).set j (.string d)
 | [], j, h => by have := h.1; simp at this
 | q :: r, 0, h => by
  have h1 := h.1
  simp only [List.map_cons, List.getElem?_cons_zero, Option.some.injEq, Value.int.injEq, true_and] at h1
  unfold putP
  rw [if_pos h1]
  refine ⟨?_, rfl⟩
  simp only [List.map_cons, kvP, h1]
 | q :: r, j + 1, h => by
  have h1 : ¬ q.1 = n := fun e => h.2 0 (iv q.1) (by omega) rfl (by rw [e])
  obtain ⟨h2, h3⟩ := putP_old (M := r) (j := j) (d := d) ⟨h.1, fun a u ha hu => h.2 (a + 1) u (by omega) hu⟩
  unfold putP
  rw [if_neg h1]
  exact ⟨by rw [List.map_cons, List.map_cons, h2], by rw [List.map_cons, List.map_cons, h3]; rfl⟩
theorem putP_new {n : Int} {d : ByteArray} : ∀ {M : List Pg}, (∀ u ∈ M.map kvP, u ≠ iv n) → putP M n d = M ++ [(n, d)]
 | [], _ => rfl
 | q :: r, h => by
  unfold putP
  rw [if_neg (fun e => h (iv q.1) (by simp) (by rw [e])), putP_new (M := r) fun u hu => h u (by simp only [List.map_cons, List.mem_cons]; exact .inr hu)]
  rfl
theorem put_pages {M : List Pg} {n : Int} {d : ByteArray} : PutOb (M.map kvP) (M.map dvP) (iv n) (.string d) ((putP M n d).map kvP) ((putP M n d).map dvP) where
 kinds u hu := by obtain ⟨q, _, rfl⟩ := List.mem_map.1 hu; rfl
 len := by rw [List.length_map, List.length_map]
 old j hj := putP_old hj
 new h := by rw [putP_new h]; simp
def MpAt (W : World) (g : Nat) (M : List Pg) : Prop := ∃ E clk, (W.heap[g]? = some (.map E clk) ∧ MapKept.Stamped E clk) ∧ E.toList.map (fun e => e.key) = M.map kvP ∧ E.toList.map (fun e => e.val) = M.map dvP
structure RgI (g : Nat) (w : World) (c : Nat → Int × ByteArray) (pre : List Nat) (W : World) : Prop where
 keep : Keep (fun b => b = g) w.heap.size w W
 mp : MpAt W g (rgM c pre)
theorem MpAt.lt {W : World} {g : Nat} {M : List Pg} (h : MpAt W g M) : g < W.heap.size := let ⟨_, _, h, _⟩ := h; lt_of_block h.1
theorem flat_dv (M : List Pg) : ∀ u ∈ M.map dvP, flat1 u = true := fun u hu => by obtain ⟨x, _, rfl⟩ := List.mem_map.1 hu; rfl
theorem MpAt.ok {W : World} {g : Nat} {M : List Pg} (h : MpAt W g M) (F : Nat → Prop) (B : Nat) (hf : B ≤ g ∨ F g) (m : BM) : ItmOk F B m W g 0 (.mp (M.map kvP) (M.map dvP)) :=
 let ⟨E, clk, h1, h2, h3⟩ := h; ⟨rfl, hf, E, clk, h1, h2, h3 ▸ LR.refl_of fun u hu => (V1.flat (flat_dv M u (h3 ▸ hu))).2 rfl⟩
theorem MpAt.of {W : World} {g s : Nat} {M : List Pg} {F : Nat → Prop} {B : Nat} {m : BM} (h : ItmOk F B m W g s (.mp (M.map kvP) (M.map dvP))) : MpAt W g M :=
 let ⟨_, _, E, clk, h1, h2, h3⟩ := h; ⟨E, clk, h1, h2, LR.eq_of (fun u hu c hc => (V1.flat (flat_dv M u hu)).1 hc) h3⟩
def sL : Code → Code | .seq a _ => a | _ => .skip
def sR : Code → Code | .seq _ b => b | _ => .skip
def bI : Code → Code | .block _ c => c | _ => .skip
def rfX : Code → Code | .rangeFunc _ _ x _ => x | _ => .skip
def rfY : Code → Code | .rangeFunc _ _ _ y => y | _ => .skip
def opsOf : Code → Array Oper | .region _ o _ => o | _ => #[]
noncomputable def rC : Code := bodyOf Tryz.f42
noncomputable def rF : Code := bI (sR (sL (sR (sR rC))))
noncomputable def rX : Array Oper := opsOf (rfX rF)
noncomputable def rY : Array Oper := opsOf (bI (rfY rF))
theorem rest_code : rC = .seq (sL rC) (.seq (sL (sR rC)) (.seq (.seq (sL (sL (sR (sR rC)))) (.block 0 (.rangeFunc (.tmp 18) #[19, 20] (.region 3 rX false) (.block 1 (.region 4 rY false))))) (sR (sR (sR rC))))) := rfl
structure XK (bx : Nat) (q : Pg) (t : TM) (h : HP) : Prop where
 t7 : lkT t 7 = some (rp bx)
 t9 : lkT t 9 = some (ptr 0)
 h0 : lkH h 0 = some (.own 51 [iv q.1, .string q.2])
set_option maxRecDepth 100000 in
theorem rx_vc (bx : Nat) (q : Pg) : vc Tryz.prog tab 69 0 [] (.region 3 rX false) (fun e t h n => match e with | .normal => XK bx q t h | _ => False) [(7, rp bx), (20, .agg #[iv q.1, .string q.2])] [] 0 := by
 obtain ⟨n, d⟩ := q
 (repeat' ((try (conv => whnf)); first | (guard_target =~ ∃ (_ : Value), ∃ (_ : HP), ∃ (_ : HP), _; refine ⟨_, _, _, rnJrnRestAll2, ?_⟩; (try (dsimp only [Nat.reduceAdd, bC, bL]))) | (fail) | (with_reducible first | refine chk_in (Nat.ble_eq_true_of_le omT) ?_ | (refine ifB_in ?_ ?_ <;> intro hb <;> (try simp only [bN1, bN2, bN3, bN4, bN5, bN6, bN7, bN8, bN9, bN0] at hb) <;> (try (exfalso; omega))) | refine ⟨_, w64b _, ?_⟩ | refine ⟨_, w64 omT omT, ?_⟩ | refine ⟨_, wu64 omT omT, ?_⟩ | refine ⟨_, wu8 omT omT, ?_⟩ | refine ⟨_, w64 szT szT, ?_⟩ | refine ⟨_, rfl, ?_⟩ | refine ⟨rfl, ?_⟩) | intro cap | (with_reducible refine ⟨trivial, ?_⟩) | (guard_target =~ (planChk _ _ = true) ∧ _; refine ⟨by kernel_rfl, ?_⟩) | (guard_target =~ (_ ∧ _) ∧ _; refine ⟨by ((repeat (first | exact trivial | refine ⟨rfl, ?_⟩)); (first | done | fail)), ?_⟩) | refine ⟨by omega, ?_⟩ | refine ⟨szT, ?_⟩ | refine ⟨0, rfl, ?_⟩ | refine ⟨1, rfl, ?_⟩ | refine ⟨2, rfl, ?_⟩ | refine ⟨3, rfl, ?_⟩ | refine ⟨4, rfl, ?_⟩ | refine ⟨5, rfl, ?_⟩ | (refine cell_at1 (by assumption) ?_) | (refine cell_in1 omT (fun x hx => ?_)) | fail)) <;> (try (conv => whnf))
 exact ⟨rfl, rfl, rfl⟩
structure YK (M : List Pg) (q : Pg) (h : HP) : Prop where
 h0 : lkH h 0 = some (.mp ((putP M q.1 q.2).map kvP) ((putP M q.1 q.2).map dvP))
set_option maxRecDepth 100000 in
theorem ry_vc (M : List Pg) (q : Pg) : vc Tryz.prog tab 69 3 [] (.region 4 rY false) (fun e t h n => match e with | .normal => YK M q h | _ => False) [(7, ptr 1), (9, ptr 2)] [(2, .view [iv q.1, .string q.2]), (1, .view [.map (some 0)]), (0, .mp (M.map kvP) (M.map dvP))] 3 := by
 obtain ⟨n, d⟩ := q
 (repeat' ((try (conv => whnf)); first | (guard_target =~ ∃ (_ : Value), ∃ (_ : HP), ∃ (_ : HP), _; refine ⟨_, _, _, rnJrnRestAll2, ?_⟩; (try (dsimp only [Nat.reduceAdd, bC, bL]))) | (guard_target =~ ∃ ks' vs', PutOb _ _ _ _ ks' vs' ∧ _; refine ⟨_, _, put_pages, ?_⟩) | (with_reducible first | refine chk_in (Nat.ble_eq_true_of_le omT) ?_ | (refine ifB_in ?_ ?_ <;> intro hb <;> (try simp only [bN1, bN2, bN3, bN4, bN5, bN6, bN7, bN8, bN9, bN0] at hb) <;> (try (exfalso; omega))) | refine ⟨_, w64b _, ?_⟩ | refine ⟨_, w64 omT omT, ?_⟩ | refine ⟨_, wu64 omT omT, ?_⟩ | refine ⟨_, wu8 omT omT, ?_⟩ | refine ⟨_, w64 szT szT, ?_⟩ | refine ⟨_, rfl, ?_⟩ | refine ⟨rfl, ?_⟩) | intro cap | (with_reducible refine ⟨trivial, ?_⟩) | (guard_target =~ (planChk _ _ = true) ∧ _; refine ⟨by kernel_rfl, ?_⟩) | (guard_target =~ (_ ∧ _) ∧ _; refine ⟨by ((repeat (first | exact trivial | refine ⟨rfl, ?_⟩)); (first | done | fail)), ?_⟩) | refine ⟨by omega, ?_⟩ | refine ⟨szT, ?_⟩ | refine ⟨0, rfl, ?_⟩ | refine ⟨1, rfl, ?_⟩ | refine ⟨2, rfl, ?_⟩ | refine ⟨3, rfl, ?_⟩ | refine ⟨4, rfl, ?_⟩ | refine ⟨5, rfl, ?_⟩ | (refine cell_at1 (by assumption) ?_) | (refine cell_in1 omT (fun x hx => ?_)) | fail)) <;> (try (conv => whnf))
 exact ⟨rfl⟩
theorem TRel.none {m : BM} {N : Nat} {a : Act} (h : a.tmps.size = N) : TRel m N [] a := ⟨h, fun i v e => by cases e⟩
theorem TRel.cons {m : BM} {N : Nat} {t : TM} {a : Act} (x : TRel m N t a) {i : Nat} {v c : Value} (h : a.tmps[i]? = some c) (hv : VR m v c) : TRel m N ((i, v) :: t) a := ⟨x.size, fun j u e => by
 by_cases hj : i = j
 · subst hj
   have : v = u := by simpa [lkT] using e
   subst this; exact ⟨c, h, hv⟩
 · unfold lkT at e
   rw [beq_no hj] at e
   exact x.get j u e⟩
theorem vr_rp {m : BM} {g : Nat} : VR m (rp g) (.pointer (some ⟨g, 0, none⟩)) := (VR.of0 rfl).2 ⟨_, A0.rig1.2 rfl, rfl⟩
theorem vr_rp' {m : BM} {g : Nat} {c : Value} (h : VR m (rp g) c) : c = .pointer (some ⟨g, 0, none⟩) := by
 obtain ⟨d, hd, rfl⟩ := (VR.of0 rfl).1 h
 rw [A0.rig1.1 hd]
theorem vr_ptr0 {m : BM} {i g : Nat} (h : m i g 0) : VR m (ptr i) (.pointer (some ⟨g, 0, none⟩)) := by
 have := VR.ptr_of (A0.in (o := 0) h zero_ne_nilS)
 rwa [sh_zero] at this
structure RgA (bx : Nat) (w : World) (c : Nat → Int × ByteArray) (x : Nat) (a' : Act) (W : World) : Prop where
 size : a'.tmps.size = 69
 ds : a'.defers = []
 t7 : a'.tmps[7]? = some (.pointer (some ⟨bx, 0, none⟩))
 pg : ∃ b, w.heap.size ≤ b ∧ a'.tmps[9]? = some (.pointer (some ⟨b, 0, none⟩)) ∧ Blk W b 51 #[iv (c x).1, .string (c x).2]
theorem Keep.same {F : Nat → Prop} {B : Nat} {w w' : World} (h : Keep F B w w') {k : Nat} (hk : k < B) (hf : ¬ F k) : w'.heap[k]? = w.heap[k]? := h.block k hk hf
theorem RgI.own (g : Nat) (w : World) (c : Nat → Int × ByteArray) (hg : g < w.heap.size) : OwnFrom w.heap.size (RgI g w c) := fun s W W' row hI hgr hr => by
 have hb : ∀ k, k < w.heap.size → W'.heap[k]? = W.heap[k]? := fun k hk => hgr.block k (Nat.lt_of_lt_of_le hk hI.keep.size) (fun e => by have := (hr k e.symm).1; omega)
 obtain ⟨E, clk, ⟨h1, h2⟩, h3⟩ := hI.mp
 exact ⟨hI.keep.trans ⟨hgr.os, hgr.tape, hgr.output, hgr.size, fun k hk _ => hb k hk⟩, E, clk, ⟨(hb g hg).trans h1, h2⟩, h3⟩
theorem RgA.own (bx : Nat) (w : World) (c : Nat → Int × ByteArray) (x : Nat) (a' : Act) : OwnFrom w.heap.size (fun (_ : Unit) W => RgA bx w c x a' W) := fun _ W W' row h hgr hr => by
 obtain ⟨b, h1, h2, h3⟩ := h.pg
 refine ⟨h.size, h.ds, h.t7, b, h1, h2, (hgr.block b h3.lt (fun e => ?_)).trans h3⟩
 obtain ⟨_, o, ho, hc⟩ := hr b e.symm
 rw [show W.heap[b]? = _ from h3] at ho
 cases ho; cases hc
set_option maxRecDepth 100000 in
theorem range_rest {w : World} {a : Act} {g bx Bs : Nat} {p : Option Addr} {b off cap : Nat} {l : List Pg} (hlen : l.length ≤ 1000000) (ha : a.tmps.size = 69) (h7 : a.tmps[7]? = some (.pointer (some ⟨bx, 0, none⟩)))
 (h18 : a.tmps[18]? = some (.func (.func 90) #[] #[.pointer (some ⟨Bs, 0, none⟩)])) (hbx : w.cell? ⟨bx, 0, none⟩ = some (.map (some g))) (hbl : bx < w.heap.size) (hbg : bx ≠ g)
 (hmp : MpAt w g []) (hBs : Bs < w.heap.size) (hBg : Bs ≠ g) (hp : 0 < l.length → p = some ⟨b, off, none⟩) (hb : 0 < l.length → b < w.heap.size ∧ b ≠ g) (hZ : BwZ Bs p b off l.length cap (pgc l) w) {Q : Exit → Act → World → Prop}
 (hdone : ∀ D W, w.heap.size ≤ D → RgI g w (pgc l) (bwTo l.length l.length) W → W.heap[D]? = some (.deferred (some [])) → Q .normal { a with defers := markD D :: a.defers } W) :
 (Code.rangeFunc (.tmp 18) #[19, 20] (.region 3 rX false) (.block 1 (.region 4 rY false))).wp Tryz.prog Q a w := by
 have hgl := hmp.lt
 refine (wpIn_wide (n := 2)).1 ?_
 refine wpIn_rangeFunc_ownH (F := Fence.wide) rfl (by omega) (gf := 90) (lb := #[.pointer (some ⟨Bs, 0, none⟩)]) (by show a.tmps.getD 18 undef = _; rw [Array.getD_eq_getD_getElem?, h18]; rfl) trivial (enters_of Tryz.func90 (by kernel_rfl) rfl)
  (bw_stops Fence.wide 1 trivial rfl (by omega) Bs p b off l.length cap hp (pgc l) hlen w hBs (fun h => (hb h).1) hZ) (fun h k => fun z => k (h z)) ?_ (Below.refl _ _) (fun _ => rfl)
  (RgI g w (pgc l)) (fun _ _ _ => False) (RgI.own g w (pgc l) hgl) (fun _ _ _ _ _ hs _ _ => hs) ⟨Keep.refl _ _ _, hmp⟩ (RgA bx w (pgc l)) (RgA.own bx w (pgc l)) ?assign ?body ?done ?stop
 · intro W k o o' hk ho h1 h2 z
   exact z.below (n := 0) fun j hj => World.putObj_heap_other (by rcases hj with rfl | ⟨rfl, hl⟩; omega; have := (hb hl).1; omega)
 case assign =>
  intro lp pre x W K hI hK
  have hpx : pgc l x = ((pgc l x).1, (pgc l x).2) := rfl
  refine wpIn_mono (vc_in tabOk (by rfl) (rx_vc bx (pgc l x)) (HRel.start W) ⟨((TRel.none ?_).cons (i := 20) (c := .agg #[iv (pgc l x).1, .string (pgc l x).2]) ?_ (VR.same rfl)).cons (i := 7) ?_ vr_rp, rfl⟩) ?_
  · simp [bwEnc, ha]
  · simp [bwEnc, ha]
  · simpa [bwEnc] using h7
  · rintro e a' W' ⟨rfl, m', t', h', n', hm, H', ht', hk⟩
    obtain ⟨c7, e7, v7⟩ := ht'.r.get 7 _ hk.t7
    obtain ⟨c9, e9, v9⟩ := ht'.r.get 9 _ hk.t9
    obtain rfl := vr_rp' v7
    obtain ⟨d9, hd9, rfl⟩ := VR.ptr v9
    obtain ⟨g9, s9, hg9, _, rfl⟩ := hd9.old
    obtain ⟨rfl, hfen, cl, hcl, hblk⟩ := H'.at hk.h0 hg9
    have hge : W.heap.size ≤ g9 := hfen.resolve_right id
    obtain rfl : cl = [iv (pgc l x).1, .string (pgc l x).2] := LR.eq_of (fun u hu c hc => (V1.flat (by rcases List.mem_cons.1 hu with rfl | hu; rfl; rcases List.mem_cons.1 hu with rfl | hu; rfl; cases hu)).1 hc) hcl
    have hB := H'.keep.below
    have hsz := hI.keep.size
    refine hK a' W' ⟨hB.size, fun k o _ hk0 _ => (hB.block k (lt_of_block hk0)).trans hk0⟩ (fun z => z.below (n := 0) fun j hj => hB.block j (by rcases hj with rfl | ⟨rfl, hl⟩; omega; have := (hb hl).1; omega)) ⟨hI.keep.trans (.of_below hB hsz), ?_⟩ ⟨ht'.r.size, ht'.ds, e7, g9, by omega, by rw [e9, sh_zero], hblk⟩
    obtain ⟨E, clk, ⟨h1, h2⟩, h3⟩ := hI.mp
    exact ⟨E, clk, ⟨(hB.block g (by omega)).trans h1, h2⟩, h3⟩
 case body =>
  intro lp pre x a' W hle _ hI hA hlt
  obtain ⟨b9, hb9, e9, hblk⟩ := hA.pg
  have hsz := hI.keep.size
  have hbx' : W.cell? ⟨bx, 0, none⟩ = some (.map (some g)) := (World.cell?_of_block (hI.keep.block bx hbl hbg)).trans hbx
  have A0 := HAcc.nil (F := fun b => b = g) (B := W.heap.size) (w0 := W) (Keep.refl _ _ _) (Nat.le_refl _)
  have A1 := A0.add g 0 (.mp ((rgM (pgc l) pre).map kvP) ((rgM (pgc l) pre).map dvP)) (hI.mp.ok _ _ (.inr rfl) _) (fun _ _ h => h)
  have A2 := A1.add bx 0 (.view [.map (some 0)]) ⟨by omega, zero_ne_nilS, [.map (some g)], ⟨(VR.of1 rfl).1 (VR.map_of (.inl (.inr ⟨rfl, rfl, rfl⟩))), trivial⟩, fun j v hj => by
   match j, hj with
   | 0, hj => cases hj; rw [sh_zero]; exact hbx'⟩ (fun q hq hU => by
    obtain ⟨_, rfl⟩ := hq
    rcases hU with h | ⟨_, h⟩
    · exact h
    · exact hbg h)
  have A3 := A2.add b9 0 (.view [iv (pgc l x).1, .string (pgc l x).2]) ⟨hblk.lt, zero_ne_nilS, [iv (pgc l x).1, .string (pgc l x).2], LR.refl_of (fun u hu => (V1.flat (by rcases List.mem_cons.1 hu with rfl | hu; rfl; rcases List.mem_cons.1 hu with rfl | hu; rfl; cases hu)).2 rfl), fun j v hj => by rw [hblk.cell, sh_zero]; simpa using hj⟩ (fun q hq hU => by
   obtain ⟨_, rfl⟩ := hq
   rcases hU with (h | ⟨_, h⟩) | ⟨_, h⟩
   · exact h
   · omega
   · omega)
  refine wpIn_block (wpIn_mono (vc_in tabOk (by rfl) (ry_vc (rgM (pgc l) pre) (pgc l x)) A3.H ⟨((TRel.none hA.size).cons (i := 9) e9 (vr_ptr0 (.inr ⟨rfl, rfl, rfl⟩))).cons (i := 7) hA.t7 (vr_ptr0 (.inl (.inr ⟨rfl, rfl, rfl⟩))), hA.ds⟩) ?_)
  rintro e a2 W' ⟨rfl, m', t', h', n', hm, H', ht', hk⟩
  have hK := H'.keep
  have hbl' : ∀ k, k < W.heap.size → k ≠ g → W'.heap[k]? = W.heap[k]? := fun k hk hg => hK.block k hk hg
  have hm0 : m' 0 g 0 := hm _ _ _ (.inl (.inl (.inr ⟨rfl, rfl, rfl⟩)))
  refine ⟨⟨hK.size, fun k o hk0 hko _ => (hbl' k (lt_of_block hko) (by omega)).trans hko⟩, fun z => z.below (n := 0) fun j hj => hbl' j (by rcases hj with rfl | ⟨rfl, hl⟩; omega; have := (hb hl).1; omega) (by rcases hj with rfl | ⟨rfl, hl⟩; exact hBg; exact (hb hl).2), ?_⟩
  refine ⟨hI.keep.trans ⟨hK.os, hK.tape, hK.output, hK.size, fun k hk hf => hbl' k (by omega) hf⟩, ?_⟩
  rw [rgM_snoc]
  exact MpAt.of (H'.at hk.h0 hm0)
 case done =>
  rintro D xs W hD rfl hI hDb
  exact hdone D W hD hI hDb
 case stop =>
  rintro D c pre W _ _ h _
  exact h.elim
end Go.Proofs.YtelolcagncgfpaaGreat
namespace Go.Proofs.YtelolcagncgfpaaGreat
open Go.RowKit Go.Maps Go.Sort Go.Shelf
set_option linter.unusedSimpArgs false
set_option linter.unusedVariables false
def anyK : Value → Option (DataW Unit × List MemPlace) := fun _ => some (.nil, [])
def keyI (x : MapEntry) : Int := match x.key with | .int _ a => a | _ => 0
theorem keyI_rd {x : MapEntry} (hx : ∃ a : Int, x.key = .int .i64 a ∧ (Lit.int .i64 a).wf = true) : WideElems.rd Tryz.prog 3 anyK x = some (.int .i64 (keyI x), .nil) := by
 obtain ⟨a, hk, ha⟩ := hx
 have h : keyOf Tryz.prog 3 (.int .i64 a) = some (.int .i64 a) := Go.Maps.keyOf_int_mk Tryz.underlying3 ha
 unfold WideElems.rd keyI
 rw [hk, h]
 rfl
set_option maxRecDepth 100000 in
theorem keysI_own {w : World} {bm clock : Nat} {es : Array MapEntry} (hb : w.heap[bm]? = some (.map es clock)) (hst : MapKept.Stamped es clock) (hk : ∀ x ∈ es.toList, ∃ a : Int, x.key = .int .i64 a ∧ (Lit.int .i64 a).wf = true) (hn : es.size ≤ maxLen) :
 w.ownsMap Tryz.prog 3 anyK bm es.size (.map ((es.toList.map (WideElems.rg Tryz.prog 3 anyK)).foldr DataW.insert [])) ∧
  (intKeys (.map ((es.toList.map (WideElems.rg Tryz.prog 3 anyK)).foldr DataW.insert []))).Perm (es.toList.map keyI) ∧ Maps.size (.map ((es.toList.map (WideElems.rg Tryz.prog 3 anyK)).foldr DataW.insert [])) = es.size := by
 refine ⟨⟨es, clock, hb, ⟨hn, hst, fun x hx => ⟨_, keyI_rd (hk x hx)⟩⟩, Nat.le_refl _, rfl⟩, ?_, ?_⟩
 · refine ((WideShapes.sorted_perm _).map _).trans ?_
   rw [List.map_map]
   refine List.Perm.of_eq (List.map_congr_left fun x hx => ?_)
   show Go.intOf (WideElems.rg _ _ _ x).1 = keyI x
   unfold WideElems.rg
   rw [keyI_rd (hk x hx)]
   rfl
 · show List.length (List.foldr DataW.insert [] _) = _
   rw [(WideShapes.sorted_perm _).length_eq, List.length_map, Array.length_toList]
theorem sortsI_in (m : Nat) : AnyZI.SortsIn Tryz.prog Tryz.iterS71_ren Fence.wide m :=
 ⟨fun blk off cap ss W hH hblk hsz => callsIn_wide.2 (AnyM.slices_Sort_int Tryz.iterO92 blk off cap ss W hH hblk hsz),
  fun p cap W => callsIn_wide.2 (AnyM.slices_Sort_int_none Tryz.iterO92 p cap W)⟩
set_option maxHeartbeats 1000000 in
set_option maxRecDepth 100000 in
theorem sortk_w (w : World) (Bm bm : Nat) (es : Array MapEntry) (clock : Nat) (hBm : Bm < w.heap.size) (hc : w.cell? ⟨Bm, 0, none⟩ = some (.map (some bm))) (hb : w.heap[bm]? = some (.map es clock)) (hst : MapKept.Stamped es clock)
 (hk : ∀ x ∈ es.toList, ∃ a : Int, x.key = .int .i64 a ∧ (Lit.int .i64 a).wf = true) (hn : es.size ≤ 1000000) :
 Calls Tryz.prog 71 #[.func (.func 93) #[] #[.pointer (some ⟨Bm, 0, none⟩)]] w fun e w' => ∃ (v : Value) (ss : List Int), e = .returned v ∧ ss.Perm (es.toList.map keyI) ∧
  w'.ownsRow w.heap.size 3 1 v ss.length ((ss.mergeSort leI).map encZ) ∧ Below w.heap.size w w' := by
 obtain ⟨hown, hperm, hsize⟩ := keysI_own hb hst hk (Nat.le_trans hn (by unfold maxLen; decide))
 generalize (.map ((es.toList.map (WideElems.rg Tryz.prog 3 anyK)).foldr DataW.insert []) : DataW Unit) = D0 at hown hperm hsize
 have hseq : SeqGives Fence.wide 2 Tryz.prog 93 #[.pointer (some ⟨Bm, 0, none⟩)] encZ (fun ss => ss.Perm (intKeys D0)) (Maps.size D0) w :=
  AnyZI.keys_gives (ρ := Tryz.iterK72_ren) { Tryz.iterK72 with } Fence.wide _ trivial rfl (by omega) Bm bm es.size D0 _ hBm hc hown
 have cS := AnyZI.sorted_in Tryz.iterS71 Fence.wide 5 trivial trivial trivial trivial rfl (by omega) (sortsI_in _) (enters_of Tryz.func92 (by kernel_rfl) rfl) 93 #[.pointer (some ⟨Bm, 0, none⟩)] trivial (enters_of Tryz.func93 (by kernel_rfl) rfl) _ _ (by rw [hsize]; unfold maxLen; omega) (by rw [hsize]; omega) _ hseq
 change CallsIn _ _ Tryz.prog 71 _ _ _ at cS
 refine (callsIn_wide (n := 5)).1 (cS.mono ?_)
 rintro e w' ⟨v, ss, rfl, hS, hrow, hnil, hb⟩
 exact ⟨v, ss, rfl, hS.trans hperm, hrow, hb⟩
abbrev PgK := Int × ByteArray
abbrev keyP (q : PgK) : Value := iv q.1
abbrev valP (q : PgK) : Value := .string q.2
def sortK (M : List PgK) : List Int := (M.map fun q => q.1).mergeSort leI
theorem sortK_length (M : List PgK) : (sortK M).length = M.length := by unfold sortK; rw [List.length_mergeSort, List.length_map]
theorem sortK_mem {M : List PgK} {a : Int} : a ∈ sortK M ↔ a ∈ M.map fun q => q.1 := List.mem_mergeSort
theorem sortK_le (M : List PgK) : (sortK M).Pairwise (· ≤ ·) := by
 have tr : ∀ a b c : Int, leI a b = true → leI b c = true → leI a c = true := fun a b c h1 h2 => by simp only [leI, decide_eq_true_eq] at *; exact Int.le_trans h1 h2
 have tt : ∀ a b : Int, (leI a b || leI b a) = true := fun a b => by simp only [leI, Bool.or_eq_true, decide_eq_true_eq]; exact Int.le_total a b
 exact (List.pairwise_mergeSort tr tt _).imp fun h => by simpa [leI] using h
theorem flat_ks (l : List Int) : ∀ u ∈ l.map iv, flat1 u = true := fun u hu => by obtain ⟨x, _, rfl⟩ := List.mem_map.1 hu; rfl
theorem vr_funcK {m : BM} {f i : Nat} {c : Value} (h : VR m (.func (.func f) #[] #[ptr i]) c) : ∃ g s, m i g s ∧ s ≠ nilS ∧ c = .func (.func f) #[] #[.pointer (some ⟨g, 0 + sh s, none⟩)] := by
 obtain ⟨l, hl, rfl⟩ : ∃ l', LR (V0 m) [ptr i] l' ∧ c = .func (.func f) #[] l'.toArray := (VR.of1 rfl).1 h
 match l, hl with
 | [u], ⟨hu, _⟩ =>
  obtain ⟨b, hb, e⟩ := hu
  obtain ⟨g, s, hm, hs, rfl⟩ := hb.old
  subst e
  exact ⟨g, s, hm, hs, rfl⟩
set_option maxRecDepth 100000 in
theorem sortk_c (M : List PgK) (hM : ∀ q ∈ M, 0 ≤ q.1 ∧ q.1 < 4294967296) (hlen : M.length ≤ 1000000) :
 CallOb Tryz.prog 71 [.func (.func 93) #[] #[ptr 0]] [(0, .own 120 [.map (some 1)]), (1, .mp (M.map keyP) (M.map valP))] 2
 (fun v h n => ∃ c : Nat, M.length ≤ c ∧ v = mslice 2 M.length c ∧ h = [(2, .lst 3 1 c ((sortK M).map iv)), (0, .own 120 [.map (some 1)]), (1, .mp (M.map keyP) (M.map valP))] ∧ n = 3) := by
 refine ⟨Tryz.call71, fun F B w0 m w cs H ha => ?_⟩
 match cs, ha with
 | [c], ⟨hc, _⟩ =>
  obtain ⟨g, s, hg, hs0, rfl⟩ := vr_funcK hc
  obtain ⟨rfl, _, l, hl, hblk⟩ := H.at (i := 0) rfl hg
  obtain ⟨gj, sj, hgj, rfl, _, A, clk, h1, h2, h3⟩ := H.dom 1 _ rfl
  have hcell : w.cell? ⟨g, 0, none⟩ = some (.map (some gj)) := by
   match l, hl with
   | [u], ⟨hu, _⟩ =>
    obtain ⟨b, hb, rfl⟩ : ∃ b, A0 m ⟨1, 0, none⟩ b ∧ u = .map (some b.block) := (V1.of0 rfl).1 hu
    obtain ⟨g', s', hm, _, rfl⟩ := hb.old
    obtain ⟨rfl, rfl⟩ := H.fn _ _ _ _ _ hm hgj
    rw [hblk.cell]; rfl
  have hsz : A.size = M.length := by
   have := congrArg List.length h2
   rwa [List.length_map, List.length_map, Array.length_toList] at this
  have hkeys : A.toList.map keyI = M.map fun q => q.1 := by
   have := congrArg (List.map fun v : Value => match v with | .int _ a => a | _ => 0) h2
   rw [List.map_map, List.map_map] at this
   exact this
  have hk : ∀ x ∈ A.toList, ∃ a : Int, x.key = .int .i64 a ∧ (Lit.int .i64 a).wf = true := fun x hx => by
   have hx' : x.key ∈ M.map keyP := h2 ▸ List.mem_map_of_mem (f := fun e => e.key) hx
   obtain ⟨q, hq, hxe⟩ := List.mem_map.1 hx'
   have := hM q hq
   refine ⟨q.1, hxe.symm, ?_⟩
   show (decide ((-9223372036854775808 : Int) ≤ q.1) && decide (q.1 ≤ 9223372036854775807)) = true
   rw [Bool.and_eq_true, decide_eq_true_eq, decide_eq_true_eq]
   omega
  rw [show (⟨g, 0 + sh 0, none⟩ : Addr) = ⟨g, 0, none⟩ by rw [sh_zero]]
  refine (sortk_w w g gj A clk hblk.lt hcell h1.1 h1.2 hk (by omega)).mono ?_
  rintro e w' ⟨v, ss, rfl, hperm, hrow, hbel⟩
  rw [hkeys] at hperm
  have hss : ss.mergeSort leI = sortK M := mergeSort_of_perm_i hperm
  have hlen2 : ss.length = M.length := by rw [hperm.length_eq, List.length_map]
  rw [hss, hlen2] at hrow
  rcases hrow.2 with ⟨rfl, h0⟩ | ⟨gb, c, cur, rfl, hge, hcur, r1, r2, r3, r4⟩
  · have hM0 : M = [] := List.eq_nil_of_length_eq_zero h0
    subst hM0
    have H2 := (H.later hbel).pushNilA 3 1 (wcode none)
    exact ⟨_, _, _, _, _, rfl, BM.le_put _ _ _ _, VR.nilA m 2 none, H2, 0, Nat.le_refl _, rfl, by rw [show sortK [] = [] by simp [sortK]]; rfl, rfl⟩
  · have H2 := H.push hbel (it := .lst 3 1 c ((sortK M).map iv)) hge (.inr ⟨rfl, .inl (Nat.le_trans H.base' hge), r2, (sortK M).map iv, cur, LR.refl_of (fun u hu => (V1.flat (flat_ks _ u hu)).2 rfl), hcur, r3, by rw [List.length_map, sortK_length]; simpa using r4, by rw [List.length_map, sortK_length, r3]; omega⟩) rfl
    exact ⟨_, _, _, _, _, rfl, BM.le_add _ _ _, VR.newM _ _ _ _ _, H2, c, r1, rfl, rfl, rfl⟩
end Go.Proofs.YtelolcagncgfpaaGreat
namespace Go.Proofs.YtelolcagncgfpaaGreat
open Go.RowKit
set_option linter.unusedSimpArgs false
set_option linter.unusedVariables false
theorem putP_ks : ∀ {M : List Pg} {n : Int} {d : ByteArray}, (putP M n d).map (fun q => q.1) = if n ∈ M.map (fun q => q.1) then M.map (fun q => q.1) else M.map (fun q => q.1) ++ [n]
 | [], n, d => by simp [putP]
 | q :: r, n, d => by
  unfold putP
  by_cases h : q.1 = n
  · rw [if_pos h]
    simp [h]
  · rw [if_neg h, List.map_cons, putP_ks (M := r)]
    have h' : ¬ n = q.1 := fun e => h e.symm
    by_cases h2 : n ∈ r.map fun q => q.1
    · rw [if_pos h2, if_pos (by simp only [List.map_cons, List.mem_cons]; exact .inr h2), List.map_cons]
    · rw [if_neg h2, if_neg (by simp only [List.map_cons, List.mem_cons]; rintro (e | e); exact h' e; exact h2 e), List.map_cons, List.cons_append]
theorem firstM_nodup : ∀ l : List Pg, ((firstM l).map fun q => q.1).Nodup
 | [] => List.Pairwise.nil
 | q :: l => by
  have ih := firstM_nodup l
  show ((putP (firstM l) q.1 q.2).map fun q => q.1).Nodup
  rw [putP_ks]
  split
  · exact ih
  · rename_i h
    rw [List.nodup_append]
    exact ⟨ih, by simp, fun a ha b hb => by rw [List.mem_singleton.1 hb]; exact fun e => h (e ▸ ha)⟩
theorem firstM_sub : ∀ {l : List Pg} {q : Pg}, q ∈ firstM l → q ∈ l
 | [], q, h => by cases h
 | p :: l, q, h => by
  rcases putP_mem (M := firstM l) h with h | h
  · exact h ▸ List.mem_cons_self
  · exact List.mem_cons_of_mem _ (firstM_sub h)
theorem firstM_len : ∀ l : List Pg, (firstM l).length ≤ l.length
 | [] => Nat.le_refl _
 | q :: l => by
  have ih := firstM_len l
  have h : ((putP (firstM l) q.1 q.2).map fun q => q.1).length ≤ (firstM l).length + 1 := by rw [putP_ks]; split <;> simp
  rw [List.length_map] at h
  show (putP (firstM l) q.1 q.2).length ≤ l.length + 1
  omega
theorem lookP_first : ∀ {M : List Pg} {n : Int} {j : Nat} {v : Value}, FirstAt (M.map kvP) (iv n) j → (M.map dvP)[j]? = some v → v = .string (lookP M n)
 | [], n, j, v, h, hv => by simp at hv
 | q :: r, n, 0, v, h, hv => by
  have h1 := h.1
  simp only [List.map_cons, List.getElem?_cons_zero, Option.some.injEq, Value.int.injEq, true_and] at h1
  simp only [List.map_cons, List.getElem?_cons_zero, Option.some.injEq] at hv
  rw [← hv]
  unfold lookP
  rw [List.find?_cons, show (q.1 == n) = true from by simpa using h1]
  rfl
 | q :: r, n, j + 1, v, h, hv => by
  have h1 : ¬ q.1 = n := fun e => h.2 0 (iv q.1) (by omega) rfl (by rw [e])
  have := lookP_first (M := r) (n := n) (j := j) (v := v) ⟨h.1, fun a u ha hu => h.2 (a + 1) u (by omega) hu⟩ hv
  rw [this]
  unfold lookP
  rw [List.find?_cons, show (q.1 == n) = false from by simpa using h1]
theorem look_pages {M : List Pg} {n : Int} {Kf : Value → Prop} {Kn : Prop} (h1 : ∀ s, s = lookP M n → Kf (.string s)) (h2 : ((M.map fun q => q.1).contains n = false) → Kn) : LookOb (M.map kvP) (M.map dvP) (iv n) Kf Kn where
 kinds u hu := by obtain ⟨q, _, rfl⟩ := List.mem_map.1 hu; rfl
 len := by rw [List.length_map, List.length_map]
 found j v hj hv := by rw [lookP_first hj hv]; exact h1 _ rfl
 none h := h2 (by
  rw [List.contains_eq_mem, decide_eq_false_iff_not]
  intro hm
  obtain ⟨q, hq, e⟩ := List.mem_map.1 hm
  exact h (iv q.1) (List.mem_map.2 ⟨q, hq, rfl⟩) (by rw [e]))
structure RS where
 i : Nat
 D : DM
 S : Nat → Prop
structure RsR (M : List Pg) (ks : List Int) (D0 : DM) (N : Int) (k : RS) : Prop where
 le : k.i ≤ ks.length
 eq : writeAll M ks D0 = writeAll M (ks.drop k.i) k.D
 ok : k.D.OkN (N + (k.i : Nat))
section
variable {M : List Pg} {ks : List Int} {D0 D D' : DM} {N : Int} {i : Nat} {S : Nat → Prop}
theorem RsR.bad (h : RsR M ks D0 N ⟨i, D, S⟩) {a : Int} (ha : ks[i]? = some a) (he : ¬ closeE 1 a (lookP M a) = 0) : writeAll M ks D0 = (closeE 1 a (lookP M a), D) := by
 obtain ⟨hlt, e⟩ := List.getElem?_eq_some_iff.1 ha
 rw [h.eq]
 show writeAll M (ks.drop i) D = _
 rw [List.drop_eq_getElem_cons hlt, e]
 unfold writeAll
 rw [if_neg he]
theorem RsR.step (h : RsR M ks D0 N ⟨i, D, S⟩) {a : Int} (ha : ks[i]? = some a) (he : closeE 1 a (lookP M a) = 0) {e : Int} (hw : (e, D') = writeD D mainN a (closeS 1 a 0 (lookP M a))) (h0 : e = 0) (S' : Nat → Prop) : RsR M ks D0 N ⟨i + 1, D', S'⟩ := by
 obtain ⟨hlt, e1⟩ := List.getElem?_eq_some_iff.1 ha
 refine ⟨hlt, ?_, ?_⟩
 · rw [h.eq]
   show writeAll M (ks.drop i) D = writeAll M (ks.drop (i + 1)) D'
   rw [List.drop_eq_getElem_cons hlt, e1]
   conv => lhs; unfold writeAll
   rw [if_pos he, ← hw]
   dsimp only
   rw [if_pos h0]
 · have := write_okN h.ok mainN a (closeS 1 a 0 (lookP M a))
   rw [← hw] at this
   exact this.mono (by dsimp only; omega)
theorem RsR.err (h : RsR M ks D0 N ⟨i, D, S⟩) {a : Int} (ha : ks[i]? = some a) (he : closeE 1 a (lookP M a) = 0) {e : Int} (hw : (e, D') = writeD D mainN a (closeS 1 a 0 (lookP M a))) (h0 : ¬ e = 0) : writeAll M ks D0 = (e, D') := by
 obtain ⟨hlt, e1⟩ := List.getElem?_eq_some_iff.1 ha
 rw [h.eq]
 show writeAll M (ks.drop i) D = _
 rw [List.drop_eq_getElem_cons hlt, e1]
 unfold writeAll
 rw [if_pos he, ← hw]
 dsimp only
 rw [if_neg h0]
theorem RsR.fin (h : RsR M ks D0 N ⟨i, D, S⟩) (hi : ¬ i < ks.length) : writeAll M ks D0 = (0, D) := by
 rw [h.eq]
 show writeAll M (ks.drop i) D = _
 rw [List.drop_eq_nil_of_le (by omega)]
 rfl
end
theorem resR_of {l : List Pg} {D D' : DM} {p N e : Int} (hok : D'.OkN (N + 20000)) (h : (e, D') = restoreD p (firstM l) (sortK (firstM l)) D) : ResR D p l N e D' := by
 refine ⟨hok, sortK (firstM l), ?_, fun a => sortK_mem, h⟩
 have hnd : (sortK (firstM l)).Nodup := (List.mergeSort_perm _ _).nodup_iff.2 (firstM_nodup l)
 exact ((sortK_le (firstM l)).and hnd).imp fun ⟨h1, h2⟩ => by omega
theorem resR_of' {l : List Pg} {M : List Pg} {D D' : DM} {p N e : Int} (hM : M = firstM l) (hok : D'.OkN (N + 20000)) (h : (e, D') = restoreD p M (sortK M) D) : ResR D p l N e D' := by
 subst hM
 exact resR_of hok h
theorem rest_err {M : List Pg} {ks : List Int} {D D' : DM} {p e : Int} (h : writeAll M ks D = (e, D')) (he : ¬ e = 0) : (e, D') = restoreD p M ks D := by
 unfold restoreD
 rw [h]
 dsimp only
 rw [if_pos he]
theorem rest_cut {M : List Pg} {ks : List Int} {D D1 D' : DM} {p e : Int} (h : writeAll M ks D = (0, D1)) (hp : p < sizeD D1 mainN) (hc : (e, D') = cutD D1 mainN p) (he : ¬ e = 0) : (e, D') = restoreD p M ks D := by
 unfold restoreD
 rw [h]
 dsimp only
 rw [if_neg (by simp), if_pos hp, ← hc, if_pos he]
theorem rest_end {M : List Pg} {ks : List Int} {D D1 D2 : DM} {p : Int} (h : writeAll M ks D = (0, D1)) (hc : (0, D2) = if p < sizeD D1 mainN then cutD D1 mainN p else (0, D1)) : restoreD p M ks D = if sizeD D2 mainN < 0 then (0, D2) else syncD D2 mainN := by
 unfold restoreD
 rw [h]
 dsimp only
 rw [if_neg (by simp), ← hc, if_neg (by simp)]
structure PK (p : Int) (len cap : Nat) (L : List Value) (S : Nat → Prop) (D : DM) (t : TM) (h : HP) (n : Nat) : Prop where
 t0 : lkT t 0 = some (ptr 0)
 t1 : lkT t 1 = some (iv p)
 t6 : lkT t 6 = some (iv 0)
 t7 : lkT t 7 = some (ptr 3)
 t18 : lkT t 18 = some (.func (.func 90) #[] #[ptr 4])
 h0 : lkH h 0 = some (diskI S D)
 h1 : lkH h 1 = some (.lview L)
 h2 : lkH h 2 = some (.mp [] [])
 h3 : lkH h 3 = some (.own 120 [.map (some 2)])
 h4 : lkH h 4 = some (.own 36 [mslice 1 len cap])
 n : n = 5
inductive RKj (p : Int) (l : List Pg) (N : Int) (D : DM) (Dm : Nat) (t : TM) (h : HP) (n : Nat) : Prop
 | go (e : Int) (D' : DM) (S' : Nat → Prop) (h6 : lkT t 6 = some (iv e)) (h0 : lkH h 0 = some (diskI S' D')) (h5 : lkH h 5 = some (markI Dm)) (hn : n ≤ 400) (hr : ResR D p l N e D') : RKj p l N D Dm t h n
 | no (hx : False) : RKj p l N D Dm t h n
attribute [local irreducible] numOf fixedL bytesOf strOf strEq strLt sfrom closeS closeE layD footS writeD sizeD syncD cutD dropD readD bytesD noteJ sealJ gonJ findJ foundJ pgS newD fullS secM onD offD fs2 syncF sizO restoreD firstM ResR BackR writeAll lookP markS
set_option maxRecDepth 100000 in
theorem rest_pre (p : Int) (len cap : Nat) (L : List Value) (S : Nat → Prop) (D : DM) : vc Tryz.prog tab 69 2 [] (.seq (sL rC) (.seq (sL (sR rC)) (sL (sL (sR (sR rC)))))) (fun e t h n => match e with | .normal => PK p len cap L S D t h n | _ => False)
 [(0, ptr 0), (1, iv p), (2, mslice 1 len cap)] [(0, diskI S D), (1, .lview L)] 2 := by
 (repeat' ((try (conv => whnf)); first | (guard_target =~ ∃ (_ : Value), ∃ (_ : HP), ∃ (_ : HP), _; refine ⟨_, _, _, rnJrnRestAll2, ?_⟩; (try (dsimp only [Nat.reduceAdd, bC, bL]))) | (guard_target =~ CallOb _ 70 _ _ _ _; (with_reducible refine call_inline tabOk mixed Tryz.call70 Tryz.func70 ?_ [] ?_ ?_); exact rfl; exact Nat.le_of_ble_eq_true rfl) | (with_reducible first | refine chk_in (Nat.ble_eq_true_of_le omT) ?_ | (refine ifB_in ?_ ?_ <;> intro hb <;> (try simp only [bN1, bN2, bN3, bN4, bN5, bN6, bN7, bN8, bN9, bN0] at hb) <;> (try (exfalso; omega))) | refine ⟨_, w64b _, ?_⟩ | refine ⟨_, w64 omT omT, ?_⟩ | refine ⟨_, wu64 omT omT, ?_⟩ | refine ⟨_, wu8 omT omT, ?_⟩ | refine ⟨_, w64 szT szT, ?_⟩ | refine ⟨_, rfl, ?_⟩ | refine ⟨rfl, ?_⟩) | intro cap | (with_reducible refine ⟨trivial, ?_⟩) | (guard_target =~ (planChk _ _ = true) ∧ _; refine ⟨by kernel_rfl, ?_⟩) | (guard_target =~ (_ ∧ _) ∧ _; refine ⟨by ((repeat (first | exact trivial | refine ⟨rfl, ?_⟩)); (first | done | fail)), ?_⟩) | refine ⟨by omega, ?_⟩ | refine ⟨szT, ?_⟩ | refine ⟨0, rfl, ?_⟩ | refine ⟨1, rfl, ?_⟩ | refine ⟨2, rfl, ?_⟩ | refine ⟨3, rfl, ?_⟩ | refine ⟨4, rfl, ?_⟩ | refine ⟨5, rfl, ?_⟩ | (refine cell_at1 (by assumption) ?_) | (refine cell_in1 omT (fun x hx => ?_)) | fail)) <;> (try (conv => whnf))
 exact ⟨rfl, rfl, rfl, rfl, rfl, rfl, rfl, rfl, rfl, rfl, rfl⟩
theorem lk_in {M : List Pg} {a : Int} {i : Nat} (h : (sortK M)[i]? = some a) : a ∈ M.map fun q => q.1 := sortK_mem.1 (List.mem_of_getElem? h)
theorem lk_no {M : List Pg} {a : Int} {i : Nat} (h : (sortK M)[i]? = some a) (hN : (M.map fun q => q.1).contains a = false) : False := by
 rw [List.contains_eq_mem, decide_eq_false_iff_not] at hN
 exact hN (lk_in h)
theorem lk_lt {M : List Pg} {a : Int} {i : Nat} (hM : ∀ q ∈ M, 0 ≤ q.1 ∧ q.1 < 4294967296) (h : (sortK M)[i]? = some a) : 0 ≤ a ∧ a < 4294967296 := by
 obtain ⟨q, hq, rfl⟩ := List.mem_map.1 (lk_in h)
 exact hM q hq
set_option maxRecDepth 100000 in
theorem rest_post (p : Int) (hp : 0 ≤ p ∧ p ≤ 4096) (l : List Pg) (M : List Pg) (hM : M = firstM l) (hMb : ∀ q ∈ M, 0 ≤ q.1 ∧ q.1 < 4294967296) (hMl : M.length ≤ 16384) (S : Nat → Prop) (D : DM) (N : Int) (hD : D.OkN N) (hN : N ≤ 900000) (Dm : Nat) :
 vc Tryz.prog tab 69 6 [] (sR (sR (sR rC))) (fun e t h n => match e with | .ret => RKj p l N D Dm t h n | _ => False) [(0, ptr 0), (1, iv p), (6, iv 0), (7, ptr 3)] [(5, markI Dm), (2, .mp (M.map kvP) (M.map dvP)), (3, .own 120 [.map (some 2)]), (0, diskI S D)] 6 := by
 have hML : M.length ≤ 1000000 := by omega
 (repeat' ((try (conv => whnf)); first | (guard_target =~ ∃ (_ : Value), ∃ (_ : HP), ∃ (_ : HP), _; refine ⟨_, _, _, rnJrnRestAll2, ?_⟩; (try (dsimp only [Nat.reduceAdd, bC, bL]))) | (guard_target =~ CallOb _ 72 _ _ _ _; (with_reducible refine call_inline tabOk mixed Tryz.call72 Tryz.func72 ?_ [] ?_ ?_); exact rfl; exact Nat.le_of_ble_eq_true rfl) | (guard_target =~ CallOb _ 71 _ _ _ _; refine call_q (sortk_c M hMb hML) [(0, some 6), (1, some 2)] cvJrnRestAll1 rfT rfT rfT (fun v h1 n1 hp => ?_); obtain ⟨cs, hcs, rfl, rfl, rfl⟩ := hp; (try (dsimp only [Nat.reduceAdd, bC, bL]))) | (guard_target =~ LoopOb _ _ _ _ _ _ _ _; refine loop_rule tabOk mixed [] 7 (fun k : RS => [(0, ptr 0), (1, iv p), (7, ptr 3), (28, mslice 6 M.length cs), (29, iv ((M.length : Nat) : Int)), (30, iv ((k.i : Nat) : Int))]) (fun k => [(5, markI Dm), (2, .mp (M.map kvP) (M.map dvP)), (3, .own 120 [.map (some 2)]), (6, .lst 3 1 cs ((sortK M).map iv)), (0, diskI k.S k.D)]) (fun k => M.length - k.i) (fun k => RsR M (sortK M) D N k) ⟨0, D, S⟩ ⟨Nat.zero_le _, rfl, hD.mono (by dsimp only; omega)⟩ ⟨[(6, some 9)], Sub.q cvJrnRestAll1 (by rfl) (by rfl)⟩ (fun k hk => ?_)) | (guard_hyp k : RS; rcases k with ⟨i, D1, S1⟩; dsimp only at hk ⊢; have hki := hk.le; have hko := hk.ok; rw [sortK_length] at hki; dsimp only at hki hko; have mk0 : 1 = 1 := rfl) | (refine cell_in1 (l := sortK M) (i := i) (by rw [sortK_length]; omega) (fun a ha => ?_); have hab := lk_lt hMb ha) | (guard_target =~ LookOb _ _ _ _ _; refine look_pages (fun sg hsg => ?_) (fun hN => False.elim (lk_no ha hN))) | (guard_target =~ CallOb _ 73 _ _ _ _; have hcl := fun w => close_any 1 a 0 sg w (by unfold U64; omega); obtain ⟨ss, hss⟩ : ∃ ss, ss = closeS 1 a (Int.toNat 0) sg := ⟨_, rfl⟩; obtain ⟨es, hes⟩ : ∃ es, es = closeE 1 a sg := ⟨_, rfl⟩; rw [← hss, ← hes] at hcl; (with_reducible refine call_pure Tryz.call73 (hcl) ?_ ?_ ?_); exact rfl; exact rfl) | (guard_target =~ CallOb _ 74 _ _ _ _; refine call_q (write_c S1 D1 (up_ok hko omT) mainN a ss omT) [(0, some 0)] cvJrnRestAll1 rfT rfT rfT (fun v h1 n1 hp => ?_); obtain ⟨ew, D2, S2, hw, rfl, rfl, rfl⟩ := hp; have hk2 := write_okN hko mainN a ss; rw [← hw] at hk2; dsimp only at hk2; (try (dsimp only [Nat.reduceAdd, bC, bL]))) | (guard_target =~ CallOb _ 18 _ _ _ _; guard_hyp mk0 : 1 = 1; clear mk0; refine call_q (size_k S1 D1 (up_ok hko omT) mainN) [(0, some 0)] cvJrnRestAll1 rfT rfT rfT (fun v h1 n1 hp => ?_); obtain ⟨sz1, S2, hz1, rfl, rfl, rfl⟩ := hp; have hfin := hk.fin (by rw [sortK_length]; omega); (try (dsimp only [Nat.reduceAdd, bC, bL]))) | (guard_target =~ CallOb _ 75 _ _ _ _; refine call_q (cut_c S2 D1 (up_ok hko omT) mainN p omT) [(0, some 0)] cvJrnRestAll1 rfT rfT rfT (fun v h1 n1 hp => ?_); obtain ⟨ec, D3, S3, hc3, rfl, rfl, rfl⟩ := hp; have hk3 := cut_okN hko mainN p; rw [← hc3] at hk3; dsimp only at hk3; (try (dsimp only [Nat.reduceAdd, bC, bL]))) | (guard_target =~ CallOb _ 18 _ _ _ _; first | (guard_hyp hk3 : DM.OkN D3 _; refine call_q (size_k S3 D3 (up_ok hk3 omT) mainN) [(0, some 0)] cvJrnRestAll1 rfT rfT rfT (fun v h1 n1 hp => ?_); obtain ⟨sz2, S4, hz2, rfl, rfl, rfl⟩ := hp; (try (dsimp only [Nat.reduceAdd, bC, bL]))) | (refine call_q (size_k S2 D1 (up_ok hko omT) mainN) [(0, some 0)] cvJrnRestAll1 rfT rfT rfT (fun v h1 n1 hp => ?_); obtain ⟨sz2, S4, hz2, rfl, rfl, rfl⟩ := hp; (try (dsimp only [Nat.reduceAdd, bC, bL])))) | (guard_target =~ CallOb _ 53 _ _ _ _; first | (guard_hyp hk3 : DM.OkN D3 _; refine call_q (sync_c S4 D3 (up_ok hk3 omT) mainN) [(0, some 0)] cvJrnRestAll1 rfT rfT rfT (fun v h1 n1 hp => ?_); obtain ⟨ey, D5, S5, hy, rfl, rfl, rfl⟩ := hp; have hk5 := sync_okN hk3 mainN; rw [← hy] at hk5; dsimp only at hk5; (try (dsimp only [Nat.reduceAdd, bC, bL]))) | (refine call_q (sync_c S4 D1 (up_ok hko omT) mainN) [(0, some 0)] cvJrnRestAll1 rfT rfT rfT (fun v h1 n1 hp => ?_); obtain ⟨ey, D5, S5, hy, rfl, rfl, rfl⟩ := hp; have hk5 := sync_okN hko mainN; rw [← hy] at hk5; dsimp only at hk5; (try (dsimp only [Nat.reduceAdd, bC, bL])))) | (with_reducible first | refine chk_in (Nat.ble_eq_true_of_le omT) ?_ | (refine ifB_in ?_ ?_ <;> intro hb <;> (try simp only [bN1, bN2, bN3, bN4, bN5, bN6, bN7, bN8, bN9, bN0] at hb) <;> (try (exfalso; omega))) | refine ⟨_, w64b _, ?_⟩ | refine ⟨_, w64 omT omT, ?_⟩ | refine ⟨_, wu64 omT omT, ?_⟩ | refine ⟨_, wu8 omT omT, ?_⟩ | refine ⟨_, w64 szT szT, ?_⟩ | refine ⟨_, rfl, ?_⟩ | refine ⟨rfl, ?_⟩) | intro cap | (with_reducible refine ⟨trivial, ?_⟩) | (guard_target =~ (planChk _ _ = true) ∧ _; refine ⟨by kernel_rfl, ?_⟩) | (guard_target =~ (_ ∧ _) ∧ _; refine ⟨by ((repeat (first | exact trivial | refine ⟨rfl, ?_⟩)); (first | done | fail)), ?_⟩) | refine ⟨by omega, ?_⟩ | refine ⟨szT, ?_⟩ | refine ⟨0, rfl, ?_⟩ | refine ⟨1, rfl, ?_⟩ | refine ⟨2, rfl, ?_⟩ | refine ⟨3, rfl, ?_⟩ | refine ⟨4, rfl, ?_⟩ | refine ⟨5, rfl, ?_⟩ | (refine cell_at1 (by assumption) ?_) | (refine cell_in1 omT (fun x hx => ?_)) | fail)) <;> (try (conv => whnf))
 all_goals first
  | (guard_hyp hb : ¬ es = 0; exact .go es D1 S1 rfl rfl rfl (Nat.le_of_ble_eq_true rfl) (resR_of' hM (hko.mono (by omega)) (rest_err (by rw [hes, hsg] at *; exact hk.bad ha hb) hb)))
  | (guard_hyp hb : ¬ ew = 0; exact .go ew D2 S2 rfl rfl rfl (Nat.le_of_ble_eq_true rfl) (resR_of' hM (hk2.mono (by omega)) (rest_err (hk.err ha (by rw [← hsg, ← hes]; exact ‹es = 0›) (by rw [← hsg]; rw [hss] at hw; exact hw) hb) hb)))
  | (guard_hyp hb : ew = 0; (refine Again.go ((⟨i + 1, D2, S2⟩ : RS)) ?_ (by (try dsimp only); omega) [(0, some 0), (2, some 2), (3, some 3), (5, some 5), (6, some 6)] (Sub.q cvJrnRestAll1 (by rfl) (by rfl))); exact hk.step ha (by rw [← hsg, ← hes]; exact ‹es = 0›) (by rw [← hsg]; rw [hss] at hw; exact hw) hb S2)
  | (guard_hyp hb : ¬ ec = 0; exact .go ec D3 S3 rfl rfl rfl (Nat.le_of_ble_eq_true rfl) (resR_of' hM (hk3.mono (by omega)) (rest_cut hfin (hz1 ▸ ‹p < sz1›) hc3 hb)))
  | (guard_hyp hb : sz2 < 0; guard_hyp hk3 : DM.OkN D3 _; exact .go 0 D3 S4 rfl rfl rfl (Nat.le_of_ble_eq_true rfl) (resR_of' hM (hk3.mono (by omega)) (by rw [rest_end (D2 := D3) hfin (by rw [if_pos (hz1 ▸ ‹p < sz1›), ← hc3, ‹ec = 0›]), if_pos (hz2 ▸ hb)])))
  | (guard_hyp hb : 0 ≤ sz2; guard_hyp hk3 : DM.OkN D3 _; exact .go ey D5 S5 rfl rfl rfl (Nat.le_of_ble_eq_true rfl) (resR_of' hM (hk5.mono (by omega)) (by rw [rest_end (D2 := D3) hfin (by rw [if_pos (hz1 ▸ ‹p < sz1›), ← hc3, ‹ec = 0›]), if_neg (by rw [← hz2]; omega)]; exact hy)))
  | (guard_hyp hb : sz2 < 0; exact .go 0 D1 S4 rfl rfl rfl (Nat.le_of_ble_eq_true rfl) (resR_of' hM (hko.mono (by omega)) (by rw [rest_end (D2 := D1) hfin (by rw [if_neg (by rw [← hz1]; omega)]), if_pos (hz2 ▸ hb)])))
  | (guard_hyp hb : 0 ≤ sz2; exact .go ey D5 S5 rfl rfl rfl (Nat.le_of_ble_eq_true rfl) (resR_of' hM (hk5.mono (by omega)) (by rw [rest_end (D2 := D1) hfin (by rw [if_neg (by rw [← hz1]; omega)]), if_neg (by rw [← hz2]; omega)]; exact hy)))
  | trace_state
end Go.Proofs.YtelolcagncgfpaaGreat
namespace Go.Proofs.YtelolcagncgfpaaGreat
open Go.RowKit
set_option linter.unusedSimpArgs false
set_option linter.unusedVariables false
theorem vc_seq3 {P : Program} {T : Tab} (hT : TabOk P T) (hmix : P.follows .mixedOrders = true) {N np : Nat} {pl : Plans} {c1 c2 c3 X c4 : Code} {K : TM → HP → Nat → Prop} {t : TM} {h : HP} {n : Nat}
 (hv : vc P T N np pl (.seq c1 (.seq c2 c3)) (fun e t h n => match e with | .normal => K t h n | _ => False) t h n) {ds : List Deferred} {F : Nat → Prop} {B : Nat} {w0 : World} {m : BM} {w : World} {a : Act}
 (H : HRel F B w0 m h n w) (ht : TD ds m N t a) {Q : Exit → Act → World → Prop}
 (hX : ∀ m' t' h' n' a' w', BM.leN np m m' → HRel F B w0 m' h' n' w' → TD ds m' N t' a' → K t' h' n' → X.wp P (Exit.then (c4.wp P Q) Q) a' w') : (Code.seq c1 (.seq c2 (.seq (.seq c3 X) c4))).wp P Q a w := by
 let KK : KT := fun e t h n => match e with | .normal => K t h n | _ => False
 let K2 : KT := fun e t h n => match e with | .normal => vc P T N np pl c3 KK t h n | e => KK e t h n
 let K1 : KT := fun e t h n => match e with | .normal => vc P T N np pl (.seq c2 c3) KK t h n | e => KK e t h n
 have e1 : vc P T N np pl c1 K1 t h n := hv
 refine wp_seq (wp_mono (vc_ok hT hmix e1 ds F B w0 m w a H ht) ?_)
 rintro e a1 w1 ⟨_, m1, t1, h1, n1, hm1, H1, ht1, hk1⟩
 cases e with
 | normal =>
  have e2 : vc P T N np pl c2 K2 t1 h1 n1 := hk1
  refine wp_seq (wp_mono (vc_ok hT hmix e2 ds F B w0 m1 w1 a1 H1 ht1) ?_)
  rintro e a2 w2 ⟨_, m2, t2, h2, n2, hm2, H2, ht2, hk2⟩
  cases e with
  | normal =>
   have e3 : vc P T N np pl c3 KK t2 h2 n2 := hk2
   refine wp_seq (wp_seq (wp_mono (vc_ok hT hmix e3 ds F B w0 m2 w2 a2 H2 ht2) ?_))
   rintro e a3 w3 ⟨_, m3, t3, h3, n3, hm3, H3, ht3, hk3⟩
   cases e with
   | normal => exact hX m3 t3 h3 n3 a3 w3 (BM.leN_trans hm1 (BM.leN_trans hm2 hm3)) H3 ht3 hk3
   | exit id => exact hk3.elim
   | goto l => exact hk3.elim
   | ret => exact hk3.elim
   | panic ch => exact hk3.elim
   | outgrown => exact hk3.elim
  | exit id => exact hk2.elim
  | goto l => exact hk2.elim
  | ret => exact hk2.elim
  | panic ch => exact hk2.elim
  | outgrown => exact hk2.elim
 | exit id => exact hk1.elim
 | goto l => exact hk1.elim
 | ret => exact hk1.elim
 | panic ch => exact hk1.elim
 | outgrown => exact hk1.elim
theorem zip_rel {m : BM} {N : Nat} {args cs : List Value} (ha : LR (VR m) args cs) (hN : args.length ≤ N) : TD [] m N (zipT 0 args) { tmps := cs.toArray ++ Array.replicate (N - cs.toArray.size) undef, defers := [] } := by
 refine ⟨⟨?_, ?_⟩, rfl⟩
 · have := ha.length
   simp; omega
 · intro i v e
   obtain ⟨_, e⟩ := lkT_zip e
   obtain ⟨c, hc, hv⟩ := ha.get e
   refine ⟨c, ?_, hv⟩
   rw [Nat.sub_zero] at hc
   have hlt : i < cs.length := by
    rcases Nat.lt_or_ge i cs.length with h | h
    · exact h
    · rw [List.getElem?_eq_none h] at hc; cases hc
   rw [Array.getElem?_append_left (by simpa using hlt)]
   simpa using hc
theorem pgv_at : ∀ {l : List Pg} {j : Nat}, j < l.length → (l.flatMap pgv)[j * 2]? = some (iv (pgc l j).1) ∧ (l.flatMap pgv)[j * 2 + 1]? = some (.string (pgc l j).2)
 | q :: l, 0, _ => ⟨rfl, rfl⟩
 | q :: l, j + 1, h => by
  obtain ⟨h1, h2⟩ := pgv_at (l := l) (j := j) (by simpa using h)
  have e : pgc (q :: l) (j + 1) = pgc l j := rfl
  rw [e, List.flatMap_cons, show (j + 1) * 2 = j * 2 + 2 by omega, show j * 2 + 2 + 1 = (j * 2 + 1) + 2 by omega]
  exact ⟨h1, h2⟩
theorem HRel.big {F : Nat → Prop} {B : Nat} {w0 : World} {m : BM} {h : HP} {n n' : Nat} {w : World} (H : HRel F B w0 m h n w) (hn : n ≤ n') : HRel F B w0 m h n' w :=
 ⟨H.keep, H.base, H.fn, fun i g s x => Nat.lt_of_lt_of_le (H.fresh i g s x) hn, H.dom, H.sep⟩
theorem HRel.news {F : Nat → Prop} {B : Nat} {w0 : World} {m : BM} {h : HP} {n : Nat} {w W : World} (H : HRel F B w0 m h n w) {i g : Nat} {ks vs ks' vs' : List Value} (e : lkH h i = some (.mp ks vs)) (hm : m i g 0) (hk : Keep (fun b => b = g) w.heap.size w W)
 {o : Obj} (ho : W.heap[g]? = some o) (ok : ∀ W' : World, W'.heap[g]? = some o → ItmOk F B m W' g 0 (.mp ks' vs')) : ∃ W0 : World, W0.heap.size = w.heap.size ∧ Below W0.heap.size W0 W ∧ HRel F B w0 m (upH h i (.mp ks' vs')) n W0 := by
 have hg := H.at e hm
 have hlt : g < w.heap.size := by obtain ⟨_, _, _, _, hE, _⟩ := hg; exact lt_of_block hE.1
 have hs : (w.putObj g o).heap[g]? = some o := World.putObj_heap_same hlt
 refine ⟨w.putObj g o, World.putObj_size, ⟨hk.os, hk.tape, hk.output, by rw [World.putObj_size]; exact hk.size, fun k hlk => ?_⟩, H.upd e rfl rfl rfl rfl hm hg.2.1 (fun k hne => World.putObj_heap_other hne) World.putObj_size rfl rfl rfl (ok _ hs)⟩
 rw [World.putObj_size] at hlk
 by_cases hkg : k = g
 · subst hkg; rw [ho, hs]
 · rw [World.putObj_heap_other hkg]; exact hk.block k hlk hkg
theorem take_mark {P : Program} {D : Nat} {w : World} (h : w.heap[D]? = some (.deferred (some []))) : (Instr.takeDeferred D).run P w = .ok [] (w.putObj D (.deferred none)) := by
 have hlt := lt_of_block h
 have h2 : w.heap[D]'hlt = .deferred (some []) := by rw [Array.getElem?_eq_getElem hlt] at h; exact Option.some.inj h
 simp [Instr.takeDeferred, getObj, setObj, Sem.run, h2, World.putObj, hlt]
set_option maxRecDepth 100000 in
theorem restore_ob : RestoreOb := by
 unfold RestoreOb
 intro S D N hD hN p l cap hcap hlen hp hlb
 refine ⟨Tryz.call42, fun F B w0 m w cs H hcs => ?_⟩
 refine (callsIn_wide (n := 5)).1 (callsIn_of_wp_marks (F := Fence.wide) Tryz.func42 (bodyOf_eq rfl) trivial (wpIn_wide.2 ?_) rfl)
 have ht0 := zip_rel (N := 69) hcs (by simp)
 change Code.wp _ rC _ _ _
 rw [rest_code]
 refine vc_seq3 tabOk mixed (rest_pre p l.length cap (l.flatMap pgv) S D) H ht0 fun m1 t1 h1 n1 a1 w1 hm1 H1 ht1 k1 => ?_
 obtain ⟨k0, k1', k6, k7, k18, kh0, kh1, kh2, kh3, kh4, kn⟩ := k1
 subst kn
 -- where all stands
 obtain ⟨c7, e7, v7⟩ := ht1.r.get 7 _ k7
 obtain ⟨d7, hd7, rfl⟩ := VR.ptr v7
 obtain ⟨g3, s3, hm3, _, rfl⟩ := hd7.old
 obtain ⟨rfl, hf3, l3, hl3, hb3⟩ := H1.at kh3 hm3
 obtain ⟨c18, e18, v18⟩ := ht1.r.get 18 _ k18
 obtain ⟨g4, s4, hm4, _, rfl⟩ := vr_funcK v18
 obtain ⟨rfl, hf4, l4, hl4, hb4⟩ := H1.at kh4 hm4
 obtain ⟨g2, s2, hm2, ok2⟩ := H1.dom 2 _ kh2
 obtain ⟨rfl, hf2, _⟩ := ok2
 have ok2 := H1.at kh2 hm2
 have hmp : MpAt w1 g2 [] := MpAt.of (M := []) ok2
 obtain ⟨g1, s1, hm1', ok1⟩ := H1.dom 1 _ kh1
 have hlt3 := hb3.lt
 have hlt4 := hb4.lt
 have hlt2 := hmp.lt
 have hne : ∀ {i g s b : Nat} {it : Itm}, lkH h1 i = some it → i ≠ 2 → m1 i g s → it.blk g s b → b ≠ g2 := fun e hi x hb he => H1.sep 2 _ _ _ g2 0 _ _ _ kh2 rfl e (fun h => hi h.symm) hm2 x ⟨zero_ne_nilS, rfl⟩ (he ▸ hb)
 have hne3 : g3 ≠ g2 := hne kh3 (by decide) hm3 ⟨zero_ne_nilS, rfl⟩
 have hne4 : g4 ≠ g2 := hne kh4 (by decide) hm4 ⟨zero_ne_nilS, rfl⟩
 have hc3 : w1.cell? ⟨g3, 0, none⟩ = some (.map (some g2)) := by
  match l3, hl3 with
  | [u], ⟨hu, _⟩ =>
   obtain ⟨b, hb, rfl⟩ : ∃ b, A0 m1 ⟨2, 0, none⟩ b ∧ u = .map (some b.block) := (V1.of0 rfl).1 hu
   obtain ⟨g', s', hm', _, rfl⟩ := hb.old
   obtain ⟨rfl, rfl⟩ := H1.fn _ _ _ _ _ hm' hm2
   rw [hb3.cell]; rfl
 -- the list
 obtain ⟨q4, off4, hc4, hp4, hl1, hz4⟩ : ∃ (q : Option Addr) (off : Nat), w1.cell? ⟨g4, 0, none⟩ = some (.slice q l.length cap) ∧ (0 < l.length → q = some ⟨g1, off, none⟩) ∧ (0 < l.length → g1 < w1.heap.size ∧ g1 ≠ g2) ∧
  ∀ j, j < l.length → w1.cell? ⟨g1, off + j * 2, none⟩ = some (iv (pgc l j).1) ∧ w1.cell? ⟨g1, off + j * 2 + 1, none⟩ = some (.string (pgc l j).2) := by
  match l4, hl4 with
  | [u], ⟨hu, _⟩ =>
   have hcu : w1.cell? ⟨g4, 0, none⟩ = some u := by rw [hb4.cell]; rfl
   obtain ⟨g, s, hm', hx⟩ := VR.mslc.1 ((VR.of1 rfl).2 hu)
   obtain ⟨rfl, rfl⟩ := H1.fn _ _ _ _ _ hm' hm1'
   rcases hx with ⟨_, h0, hk, rfl⟩ | ⟨hs, rfl⟩
   · exact ⟨weird g, 0, by rw [hcu, h0, hk], fun h => by omega, fun h => by omega, fun j hj => by omega⟩
   · rcases ok1 with ⟨h, _⟩ | ⟨hlt1, _, L', hL', hcell⟩
     · exact absurd h hs
     · obtain rfl := LR.eq_of (fun u hu c hc => (V1.flat (flat_bind (f := pgv) (fun _ => rfl) l u hu)).1 hc) hL'
       refine ⟨_, 0 + sh s, hcu, fun _ => rfl, fun _ => ⟨hlt1, hne kh1 (by decide) hm1' ⟨hs, rfl⟩⟩, fun j hj => ?_⟩
       obtain ⟨h1, h2⟩ := pgv_at hj
       rw [Nat.zero_add]
       exact ⟨hcell _ _ h1, hcell _ _ h2⟩
 rw [sh_zero] at e7 e18
 refine wp_block (range_rest (by omega) ht1.r.size e7 e18 hc3 hlt3 hne3 hmp hlt4 hne4 hp4 hl1 ⟨hc4, hz4⟩ fun Dm W hDm hI hW => ?_)
 -- behind the loop over the list
 obtain ⟨E, clk, ⟨hE1, hE2⟩, hE3, hE4⟩ := hI.mp
 rw [rgM_all] at hE3 hE4
 obtain ⟨W0, hs0, hbel, H0⟩ := H1.news kh2 hm2 hI.keep hE1 (ks' := (firstM l).map kvP) (vs' := (firstM l).map dvP) (fun W' h => MpAt.ok ⟨E, clk, ⟨h, hE2⟩, hE3, hE4⟩ F B hf2 m1)
 have HW := H0.pushAt (g := Dm) (s := 0) (it := markI Dm) hbel (fun b hb => by rw [show b = Dm from hb, hs0]; exact hDm) (markI_ok hW)
 have HW2 := HW.sub_of (h' := [(5, markI Dm), (2, .mp ((firstM l).map kvP) ((firstM l).map dvP)), (3, .own 120 [.map (some 2)]), (0, diskI S D)]) (fun i it e => by
  have hu := fun k => lkH_up (it := .mp ((firstM l).map kvP) ((firstM l).map dvP)) (i := k) kh2
  have e' := lkH_mem e
  simp only [List.mem_cons, Prod.mk.injEq, List.not_mem_nil, or_false] at e'
  rcases e' with ⟨rfl, rfl⟩ | ⟨rfl, rfl⟩ | ⟨rfl, rfl⟩ | ⟨rfl, rfl⟩
  · rfl
  · exact (hu 2).trans (if_pos rfl)
  · exact (hu 3).trans ((if_neg (by decide)).trans kh3)
  · exact (hu 0).trans ((if_neg (by decide)).trans kh0))
 obtain ⟨c0, e0, v0⟩ := ht1.r.get 0 _ k0
 obtain ⟨c1, e1, v1⟩ := ht1.r.get 1 _ k1'
 obtain ⟨c6, e6, v6⟩ := ht1.r.get 6 _ k6
 have hle := BM.le_put m1 5 Dm 0
 have hMl := firstM_len l
 have hT : TD [markD Dm] (m1.put 5 Dm 0) 69 [(0, ptr 0), (1, iv p), (6, iv 0), (7, ptr 3)] { a1 with defers := markD Dm :: a1.defers } :=
  ⟨((((TRel.none (a := { a1 with defers := markD Dm :: a1.defers }) ht1.r.size).cons (i := 7) e7 ((vr_ptr0 hm3).mono hle)).cons (i := 6) e6 (v6.mono hle)).cons (i := 1) e1 (v1.mono hle)).cons (i := 0) e0 (v0.mono hle), by show markD Dm :: a1.defers = _; rw [ht1.ds]⟩
 refine wp_mono (vc_ok tabOk mixed (rest_post p hp l (firstM l) rfl (fun q hq => by have := hlb q (firstM_sub hq); omega) (by omega) S D N hD hN Dm) [markD Dm] F B w0 _ W _ HW2 hT) ?_
 rintro e a2 w2 ⟨_, m2, t2, h2, n2, hmm, H2, ht2, hk2⟩
 cases e with
 | ret =>
  cases hk2 with
  | no hx => exact hx.elim
  | go e' D' S' h6 h0 h5 hn hr =>
   have hm5 : m2 5 Dm 0 := hmm 5 Dm 0 (by decide) (.inr ⟨rfl, rfl, rfl⟩)
   obtain ⟨_, _, _, _, hdef⟩ := H2.at h5 hm5
   show LeavesInM _ _ _ _ _ _ a2.defers .returning w2
   rw [ht2.ds]
   refine ⟨(fun h => by cases h), .inl ⟨Dm, w2.putObj Dm (.deferred none), rfl, take_mark hdef, ?_⟩⟩
   obtain ⟨c2, ec, vc⟩ := ht2.r.get 6 _ h6
   refine ⟨_, results_tmp (t := 6) rfl _ _ _, ?_⟩
   have hB : B ≤ Dm := Nat.le_trans H1.base' hDm
   have H3 : HRel F B w0 m2 [(0, diskI S' D')] 400 (w2.putObj Dm (.deferred none)) := by
    refine ((H2.sub_of (h' := [(0, diskI S' D')]) fun i it e => ?_).other (w' := w2.putObj Dm (.deferred none)) ⟨rfl, rfl, rfl, by rw [World.putObj_size]; exact Nat.le_refl _, fun k hk _ => World.putObj_heap_other (by omega)⟩ fun i it g s b e x hb => World.putObj_heap_other fun he => ?_).big hn
    · have e' := lkH_mem e
      simp only [List.mem_cons, Prod.mk.injEq, List.not_mem_nil, or_false] at e'
      obtain ⟨rfl, rfl⟩ := e'
      exact h0
    · have e' := lkH_mem e
      simp only [List.mem_cons, Prod.mk.injEq, List.not_mem_nil, or_false] at e'
      obtain ⟨rfl, rfl⟩ := e'
      exact H2.sep 0 _ 5 _ g s Dm 0 b h0 rfl h5 (by decide) x hm5 hb he
   refine ⟨m2, iv e', _, _, 400, rfl, BM.le_trans (BM.le_of_leN H hm1) (BM.le_trans hle (BM.le_of_leN HW2 hmm)), ?_, H3, (e', D', S'), hr, rfl, rfl, rfl⟩
   rw [Array.getD_eq_getD_getElem?, ec]
   exact vc
 | normal => exact hk2.elim
 | exit id => exact hk2.elim
 | goto l => exact hk2.elim
 | panic ch => exact hk2.elim
 | outgrown => exact hk2.elim
end Go.Proofs.YtelolcagncgfpaaGreat
