/- A database changed under its journal while the disk's operations may fail: whatever was changed, its journal says how it was. No program in sight. -/
import Derived.Test.YtncnfmpclgkogaaJrnChg
namespace Go.Proofs.Ytncnfmpclgkogaa
open Go.RowKit
set_option linter.unusedSimpArgs false
set_option linter.unusedVariables false
theorem closed_ok {k n : Int} {s : Nat} {d : ByteArray} (hk : 0 ≤ k ∧ k < 4294967296) (hn : 0 ≤ n ∧ n < 4294967296) (hd : d.size = 232) : closeE k n d = 0 ∧ (closeS k n s d).size = 256 := by
  have hok : sealOk k n (bytesOf d) = true := sealOk_iff.2 ⟨hk, hn, by rw [bytesOf_length]; exact hd⟩
  unfold closeE closeS
  rw [if_pos hok, if_pos hok]
  exact ⟨rfl, by rw [strOf_size, sealL_length (by rw [bytesOf_length]; exact hd)]⟩
/-- The power is on; what is armed is an error. -/
structure K1 (k : Dk) : Prop where
  down : k.down = false
  kind : k.kind = 1
  room : k.room = 16384
theorem beg1 {k : Dk} (h : K1 k) {s : ByteArray} (hs : goodName s = true) : ∃ k', K1 k' ∧ (begS k s true = (0, k') ∨ begS k s true = (11, k')) := by
  have e : begS k s true = (if k.at' = 0 then (0, { k with ops := k.ops + 1 }) else if 1 < k.at' then (0, { k with ops := k.ops + 1, at' := k.at' - 1 }) else if 0 < k.more then (11, { k with ops := k.ops + 1, more := k.more - 1 }) else (11, { k with ops := k.ops + 1, at' := 0 })) := by
    unfold begS
    rw [if_neg (by rw [hs]; simp), if_neg (by rw [h.down]; decide)]
    split
    · rfl
    · split
      · rfl
      · rw [if_neg (by rw [h.kind]; decide)]
  rw [e]
  split
  · exact ⟨{ k with ops := k.ops + 1 }, ⟨h.down, h.kind, h.room⟩, .inl rfl⟩
  · split
    · exact ⟨{ k with ops := k.ops + 1, at' := k.at' - 1 }, ⟨h.down, h.kind, h.room⟩, .inl rfl⟩
    · split
      · exact ⟨{ k with ops := k.ops + 1, more := k.more - 1 }, ⟨h.down, h.kind, h.room⟩, .inr rfl⟩
      · exact ⟨{ k with ops := k.ops + 1, at' := 0 }, ⟨h.down, h.kind, h.room⟩, .inr rfl⟩
theorem found1 {k : Dk} (h : K1 k) {fs : Fs} {s : ByteArray} (hs : goodName s = true) : ∃ k', K1 k' ∧ (((∃ x, findF fs s = some x) ∧ foundD ⟨k, fs⟩ s true = (0, ⟨k', fs⟩)) ∨ (findF fs s = none ∧ foundD ⟨k, fs⟩ s true = (14, ⟨k', fs⟩)) ∨ foundD ⟨k, fs⟩ s true = (11, ⟨k', fs⟩)) := by
  obtain ⟨k', h1, h2 | h2⟩ := beg1 h hs
  · cases hf : findF fs s with
    | none => exact ⟨k', h1, .inr (.inl ⟨rfl, by unfold foundD; dsimp only; rw [h2, hf]; rfl⟩)⟩
    | some x => exact ⟨k', h1, .inl ⟨⟨x, rfl⟩, by unfold foundD; dsimp only; rw [h2, hf]; rfl⟩⟩
  · exact ⟨k', h1, .inr (.inr (by unfold foundD; dsimp only; rw [h2]; rfl))⟩
section
variable {k k' : Dk} {fs : Fs} {s d : ByteArray}
theorem writeW_old {i : Int} {X : Fl} (h0 : foundD ⟨k, fs⟩ s true = (0, ⟨k', fs⟩)) (hf : findF fs s = some X) (hi : 0 ≤ i) (hd : d.size = 256) (hl : i ≤ X.now.length) (hr : (total fs : Int) < k'.room) : writeD ⟨k, fs⟩ s i d = (0, ⟨k', putF fs s (writeF X i.toNat d)⟩) := by
  unfold writeD
  rw [right_up hi hd, h0, hf]
  dsimp only [Option.getD_some]
  rw [if_neg (by simp), if_neg (by omega), if_neg]
  rintro (⟨h, _⟩ | ⟨h, h'⟩)
  · cases h
  · omega
theorem writeW_new (h0 : foundD ⟨k, fs⟩ s true = (14, ⟨k', fs⟩)) (hf : findF fs s = none) (hd : d.size = 256) (hl : fs.length < 8) (hr : (total fs : Int) < k'.room) : writeD ⟨k, fs⟩ s 0 d = (0, ⟨k', putF fs s ⟨[some d], [none], [true], false⟩⟩) := by
  unfold writeD
  rw [right_up (Int.le_refl 0) hd, h0, hf]
  dsimp only [Option.getD_none]
  rw [if_neg (by simp), if_neg (show ¬ ((fl0.now.length : Int) < 0) by decide), if_neg]
  · rfl
  · rintro (⟨_, h⟩ | ⟨_, h⟩) <;> omega
theorem writeW_err {i : Int} (h0 : foundD ⟨k, fs⟩ s true = (11, ⟨k', fs⟩)) (hi : 0 ≤ i) (hd : d.size = 256) : writeD ⟨k, fs⟩ s i d = (11, ⟨k', fs⟩) := by
  unfold writeD
  rw [right_up hi hd, h0]
  rfl
theorem syncW_old {X : Fl} (h0 : foundD ⟨k, fs⟩ s true = (0, ⟨k', fs⟩)) (hf : findF fs s = some X) : syncD ⟨k, fs⟩ s = (0, ⟨k', putF fs s (syncF X)⟩) := by
  unfold syncD
  rw [h0, hf]
  rfl
theorem syncW_err (h0 : foundD ⟨k, fs⟩ s true = (11, ⟨k', fs⟩)) : syncD ⟨k, fs⟩ s = (11, ⟨k', fs⟩) := by
  unfold syncD
  rw [h0]
  rfl
end
section
variable {k : Dk} (h : K1 k)
include h
theorem write1_main (m j : Option Fl) {i : Nat} {d : ByteArray} (hd : d.size = 256) (hi : i ≤ lenO m) (hr : lenO m + lenO j < 16384) :
    ∃ k', K1 k' ∧ (writeD ⟨k, fs2 m j⟩ mainN (i : Nat) d = (0, ⟨k', fs2 (some (setO m i d)) j⟩) ∨ writeD ⟨k, fs2 m j⟩ mainN (i : Nat) d = (11, ⟨k', fs2 m j⟩)) := by
  obtain ⟨k', h1, h2⟩ := found1 h (fs := fs2 m j) main_good
  have hroom : ((total (fs2 m j) : Nat) : Int) < k'.room := by rw [total2, h1.room]; omega
  refine ⟨k', h1, ?_⟩
  rcases h2 with ⟨⟨x, hx⟩, h2⟩ | ⟨hx, h2⟩ | h2
  · rw [find2_main] at hx
    subst hx
    have := writeW_old (i := ((i : Nat) : Int)) h2 (find2_main _ _) (Int.natCast_nonneg _) hd (by simp only [lenO] at hi; omega) hroom
    rw [put2_main, Int.toNat_natCast] at this
    exact .inl this
  · rw [find2_main] at hx
    subst hx
    simp only [lenO] at hi
    obtain rfl : i = 0 := by omega
    have := writeW_new h2 (find2_main _ _) hd (by have := len2 none j; omega) hroom
    rw [put2_main] at this
    exact .inl this
  · exact .inr (writeW_err h2 (Int.natCast_nonneg _) hd)
theorem write1_jn (m j : Option Fl) {d : ByteArray} (hd : d.size = 256) (hr : lenO m + lenO j < 16384) :
    ∃ k', K1 k' ∧ (writeD ⟨k, fs2 m j⟩ jnN ((lenO j : Nat) : Int) d = (0, ⟨k', fs2 m (some (setO j (lenO j) d))⟩) ∨ writeD ⟨k, fs2 m j⟩ jnN ((lenO j : Nat) : Int) d = (11, ⟨k', fs2 m j⟩)) := by
  obtain ⟨k', h1, h2⟩ := found1 h (fs := fs2 m j) jn_good
  have hroom : ((total (fs2 m j) : Nat) : Int) < k'.room := by rw [total2, h1.room]; omega
  refine ⟨k', h1, ?_⟩
  rcases h2 with ⟨⟨x, hx⟩, h2⟩ | ⟨hx, h2⟩ | h2
  · rw [find2_jn] at hx
    subst hx
    have := writeW_old (i := ((x.now.length : Nat) : Int)) h2 (find2_jn _ _) (Int.natCast_nonneg _) hd (Int.le_refl _) hroom
    rw [put2_jn, Int.toNat_natCast] at this
    exact .inl this
  · rw [find2_jn] at hx
    subst hx
    have := writeW_new h2 (find2_jn _ _) hd (by have := len2 m none; omega) hroom
    rw [put2_jn] at this
    exact .inl this
  · exact .inr (writeW_err h2 (Int.natCast_nonneg _) hd)
theorem sync1_main (x : Fl) (j : Option Fl) : ∃ k', K1 k' ∧ (syncD ⟨k, fs2 (some x) j⟩ mainN = (0, ⟨k', fs2 (some (syncF x)) j⟩) ∨ syncD ⟨k, fs2 (some x) j⟩ mainN = (11, ⟨k', fs2 (some x) j⟩)) := by
  obtain ⟨k', h1, h2⟩ := found1 h (fs := fs2 (some x) j) main_good
  refine ⟨k', h1, ?_⟩
  rcases h2 with ⟨_, h2⟩ | ⟨hx, h2⟩ | h2
  · have := syncW_old h2 (find2_main _ _)
    rw [put2_main] at this
    exact .inl this
  · rw [find2_main] at hx; cases hx
  · exact .inr (syncW_err h2)
theorem sync1_jn (m : Option Fl) (y : Fl) : ∃ k', K1 k' ∧ (syncD ⟨k, fs2 m (some y)⟩ jnN = (0, ⟨k', fs2 m (some (syncF y))⟩) ∨ syncD ⟨k, fs2 m (some y)⟩ jnN = (11, ⟨k', fs2 m (some y)⟩)) := by
  obtain ⟨k', h1, h2⟩ := found1 h (fs := fs2 m (some y)) jn_good
  refine ⟨k', h1, ?_⟩
  rcases h2 with ⟨_, h2⟩ | ⟨hx, h2⟩ | h2
  · have := syncW_old h2 (find2_jn _ _)
    rw [put2_jn] at this
    exact .inl this
  · rw [find2_jn] at hx; cases hx
  · exact .inr (syncW_err h2)
end
/-! What a database and its journal say of each other. -/
/-- All of a journal counts. -/
def RunO (j : Option Fl) (F : FM) : Prop := match j with | none => F = fm0 | some y => y.now ≠ [] ∧ runC y.now fm0 true = some F
def pagesOf (F : FM) : List Int := F.sure.map fun q => q.1
structure CoreI (p : Nat) (m j : Option Fl) (F : FM) (c : Nat) : Prop where
  run : RunO j F
  pages : F.pages = if F.feet = 0 then 0 else (p : Nat)
  feet : 0 ≤ F.feet
  salt : j ≠ none → F.salt = 99
  data : ∀ q ∈ F.sure ++ F.loose, (0 ≤ q.1 ∧ q.1 < (p : Nat)) ∧ q.2 = pgS 232 q.1
  none : F.feet = 0 → F.sure = [] ∧ m = laidF p
  some : 0 < p → ∃ x, m = some x ∧ p ≤ x.now.length ∧ ∀ i : Nat, i < p → ((i : Nat) : Int) ∉ pagesOf F → x.now[i]? = (laidM p)[i]?
  lm : lenO m ≤ 8 + c
  lj : lenO j ≤ c
  ll : F.loose.length ≤ c
/-- The same of a journal under way. -/
structure WayI (p : Nat) (J : JM) (m j : Option Fl) (F : FM) (c : Nat) : Prop where
  core : CoreI p m j F c
  jp : J.pages = (p : Nat)
  js : J.salt = 99
  jf : J.feet = F.feet
  jn : J.noted = (F.sure ++ F.loose).map fun q => q.1
  jl : J.loose = (F.loose.length : Nat)
section
variable {p : Nat} {m j : Option Fl} {F : FM} {c : Nat}
theorem CoreI.mono (h : CoreI p m j F c) {c' : Nat} (hc : c ≤ c') : CoreI p m j F c' := ⟨h.run, h.pages, h.feet, h.salt, h.data, h.none, h.some, by have := h.lm; omega, by have := h.lj; omega, by have := h.ll; omega⟩
theorem runO_sync {y : Fl} (h : RunO (some y) F) : RunO (some (syncF y)) F := h
/-- One sector more. -/
theorem runO_lay (h : RunO j F) (hs : j ≠ none → F.salt = 99) {kind number : Int} {d : ByteArray} {F' : FM} (h3 : stepF F (closeS kind number 99 d) (decide (j = none)) = some F') : RunO (some (setO j (lenO j) (closeS kind number 99 d))) F' := by
  cases j with
  | none =>
    obtain rfl : F = fm0 := h
    rw [decide_eq_true rfl] at h3
    refine ⟨by simp [setO], ?_⟩
    show runC [some _] fm0 true = some F'
    simp only [runC, h3]
  | some y =>
    obtain ⟨hne, hrun⟩ := h
    rw [decide_eq_false (by simp)] at h3
    have hw : (setO (some y) (lenO (some y)) (closeS kind number 99 d)).now = y.now ++ [some (closeS kind number 99 d)] := by
      show (writeF y y.now.length _).now = _
      unfold writeF
      rw [if_pos rfl]
    refine ⟨by rw [hw]; simp, ?_⟩
    rw [hw, runC_app hrun]
    have he : (true && y.now.isEmpty) = false := by
      cases hh : y.now with
      | nil => exact absurd hh hne
      | cons _ _ => rfl
    rw [he]
    simp only [runC, h3]
end
theorem lay1 {k : Dk} (h : K1 k) (m j : Option Fl) {kind number : Int} {d : ByteArray} (hk : 0 ≤ kind ∧ kind < 4294967296) (hn : 0 ≤ number ∧ number < 4294967296) (hd : d.size = 232) (hr : lenO m + lenO j < 16384) :
    ∃ k', K1 k' ∧ (layD 99 ⟨k, fs2 m j⟩ kind number d = (0, ⟨k', fs2 m (some (setO j (lenO j) (closeS kind number 99 d)))⟩) ∨ layD 99 ⟨k, fs2 m j⟩ kind number d = (11, ⟨k', fs2 m j⟩)) := by
  obtain ⟨c1, c2⟩ := closed_ok (s := Int.toNat 99) hk hn hd
  unfold layD
  rw [if_pos c1, size2_jn, max_siz]
  exact write1_jn h m j c2 hr
theorem salt99 {p : Nat} {m j : Option Fl} {F : FM} {c : Nat} (h : CoreI p m j F c) : decide (j = none) = true ∨ (99 : Int) = F.salt := by
  cases j with
  | none => exact .inl (decide_eq_true rfl)
  | some y => exact .inr (h.salt (by simp)).symm
section
variable {p : Nat} {J : JM} {m j : Option Fl} {F : FM} {c : Nat} {k : Dk}
theorem note1 (h : WayI p J m j F c) (hk : K1 k) (hp : p < 9) (hc : c ≤ 1000) {q : Int} (hq : 0 ≤ q ∧ q < (p : Nat)) :
    ∃ e J' k' j' F', noteJ J ⟨k, fs2 m j⟩ q (pgS 232 q) = (e, J', ⟨k', fs2 m j'⟩) ∧ K1 k' ∧ CoreI p m j' F' (c + 1) ∧ (e = 0 → WayI p J' m j' F' (c + 1) ∧ q ∈ J'.noted) := by
  have hno : ¬ (q < 0 ∨ J.pages ≤ q ∨ (pgS 232 q).size ≠ 232) := by rw [h.jp, pgS_size]; omega
  unfold noteJ
  rw [if_neg hno]
  by_cases hm : q ∈ J.noted
  · rw [if_pos hm]
    have hC := h.core.mono (Nat.le_succ c)
    exact ⟨0, J, k, j, F, rfl, hk, hC, fun _ => ⟨⟨hC, h.jp, h.js, h.jf, h.jn, h.jl⟩, hm⟩⟩
  · rw [if_neg hm, h.js]
    have hlm := h.core.lm
    have hlj := h.core.lj
    obtain ⟨k', hk', e | e⟩ := lay1 hk m j (kind := 2) (number := q) (d := pgS 232 q) (by decide) (by omega) (pgS_size _ _) (by omega)
    · rw [e]
      obtain ⟨s1, s2, s3⟩ := step_rec (F := F) (n := q) (salt := 99) (d := pgS 232 q) (b := decide (j = none)) ⟨hq.1, by omega⟩ (pgS_size _ _) ⟨by decide, by decide⟩ (salt99 h.core)
      have hrun := runO_lay h.core.run h.core.salt s3
      have hC : CoreI p m (some (setO j (lenO j) (closeS 2 q 99 (pgS 232 q)))) { F with salt := 99, loose := F.loose ++ [(q, pgS 232 q)] } (c + 1) := by
        refine ⟨hrun, h.core.pages, h.core.feet, fun _ => rfl, ?_, h.core.none, h.core.some, by omega, ?_, ?_⟩
        · intro r hr
          dsimp only at hr
          rw [← List.append_assoc] at hr
          rcases List.mem_append.1 hr with hr | hr
          · exact h.core.data r hr
          · rcases List.mem_singleton.1 hr with rfl
            exact ⟨hq, rfl⟩
        · have := (setO_len j (Nat.le_refl (lenO j)) (closeS 2 q 99 (pgS 232 q))).2
          show (setO j (lenO j) _).now.length ≤ _
          omega
        · have := h.core.ll
          dsimp only
          rw [List.length_append, List.length_singleton]
          omega
      refine ⟨0, ⟨J.pages, 99, J.noted ++ [q], J.loose + 1, J.feet⟩, k', _, _, rfl, hk', hC, fun _ => ⟨⟨hC, h.jp, rfl, h.jf, ?_, ?_⟩, by simp⟩⟩
      · show J.noted ++ [q] = (F.sure ++ (F.loose ++ [(q, pgS 232 q)])).map fun q => q.1
        rw [h.jn]
        simp
      · show J.loose + 1 = _
        rw [h.jl, List.length_append, List.length_singleton]
        omega
    · rw [e]
      exact ⟨11, J, k', j, F, rfl, hk', h.core.mono (Nat.le_succ c), fun hh => by cases hh⟩
theorem seal1 (h : WayI p J m j F c) (hk : K1 k) (hp : p < 9) (hc : c ≤ 1000) :
    ∃ e J' k' j' F', sealJ J ⟨k, fs2 m j⟩ = (e, J', ⟨k', fs2 m j'⟩) ∧ K1 k' ∧ CoreI p m j' F' (c + 1) ∧ (e = 0 → WayI p J' m j' F' (c + 1) ∧ F'.loose = [] ∧ 0 < F'.feet ∧ J'.noted = J.noted) := by
  have hC := h.core.mono (Nat.le_succ c)
  unfold sealJ
  by_cases hz : 0 < J.feet ∧ J.loose = 0
  · rw [if_pos hz]
    have hl : F.loose = [] := List.eq_nil_of_length_eq_zero (by have := hz.2; rw [h.jl] at this; omega)
    exact ⟨0, J, k, j, F, rfl, hk, hC, fun _ => ⟨⟨hC, h.jp, h.js, h.jf, h.jn, h.jl⟩, hl, by rw [← h.jf]; exact hz.1, rfl⟩⟩
  · rw [if_neg hz]
    have hlm := h.core.lm
    have hlj := h.core.lj
    have hpre : ∃ k1 j1, K1 k1 ∧ (presyncJ J ⟨k, fs2 m j⟩ = (0, ⟨k1, fs2 m j1⟩) ∨ (presyncJ J ⟨k, fs2 m j⟩ = (11, ⟨k1, fs2 m j1⟩))) ∧ RunO j1 F ∧ (j1 = none ↔ j = none) ∧ lenO j1 = lenO j := by
      unfold presyncJ
      split
      · rename_i hlo
        cases j with
        | none =>
          exfalso
          have : F = fm0 := h.core.run
          rw [h.jl, this] at hlo
          exact absurd hlo (by decide)
        | some y =>
          obtain ⟨k1, hk1, e | e⟩ := sync1_jn hk m y
          · exact ⟨k1, some (syncF y), hk1, .inl e, h.core.run, by simp, rfl⟩
          · exact ⟨k1, some y, hk1, .inr e, h.core.run, by simp, rfl⟩
      · exact ⟨k, j, hk, .inl rfl, h.core.run, Iff.rfl, rfl⟩
    obtain ⟨k1, j1, hk1, hpe, hrun1, hj1, hl1⟩ := hpre
    have hC1 : CoreI p m j1 F (c + 1) := ⟨hrun1, hC.pages, hC.feet, fun hh => hC.salt fun e => hh (hj1.2 e), hC.data, hC.none, hC.some, hC.lm, by rw [hl1]; exact hC.lj, hC.ll⟩
    rcases hpe with hpe | hpe
    · rw [hpe]
      dsimp only
      rw [if_neg (by simp), h.js]
      have hll := h.core.ll
      have hft : footS J.pages J.feet = footS (p : Nat) F.feet := by rw [h.jp, h.jf]
      rw [hft, h.jl]
      obtain ⟨k2, hk2, e | e⟩ := lay1 hk1 m j1 (kind := 3) (number := (F.loose.length : Nat)) (d := footS (p : Nat) F.feet) (by decide) (by omega) (footS_size _ _) (by omega)
      · rw [e]
        dsimp only
        rw [if_neg (by simp)]
        obtain ⟨s1, s2, s3⟩ := step_foot (F := F) (p := (p : Nat)) (salt := 99) (b := decide (j1 = none)) (by omega) (by
          rw [h.core.pages]
          by_cases h0 : F.feet = 0
          · exact .inl h0
          · rw [if_neg h0]; exact .inr rfl) (by omega) ⟨by decide, by decide⟩ (salt99 hC1) (fun q hq => (h.core.data q (List.mem_append_right _ hq)).1.2)
        have hrun := runO_lay hrun1 hC1.salt s3
        have hfe := h.core.feet
        have hC2 : ∀ y : Fl, RunO (some y) ⟨(p : Nat), F.feet + 1, 99, F.sure ++ F.loose, []⟩ → y.now.length = (setO j1 (lenO j1) (closeS 3 (F.loose.length : Nat) 99 (footS (p : Nat) F.feet))).now.length → CoreI p m (some y) ⟨(p : Nat), F.feet + 1, 99, F.sure ++ F.loose, []⟩ (c + 1) := fun y hy hly => by
          refine ⟨hy, ?_, by show 0 ≤ F.feet + 1; omega, fun _ => rfl, ?_, fun hh => ?_, fun h0 => ?_, hC.lm, ?_, Nat.zero_le _⟩
          · dsimp only; rw [if_neg (by omega)]
          · intro r hr
            dsimp only at hr
            rw [List.append_nil] at hr
            exact h.core.data r hr
          · dsimp only at hh; omega
          · obtain ⟨x, hx, hx1, hx2⟩ := h.core.some h0
            refine ⟨x, hx, hx1, fun i hi hn => hx2 i hi fun hm => hn ?_⟩
            show _ ∈ (F.sure ++ F.loose).map _
            rw [List.map_append]
            exact List.mem_append_left _ hm
          · have := (setO_len j1 (Nat.le_refl (lenO j1)) (closeS 3 (F.loose.length : Nat) 99 (footS (p : Nat) F.feet))).2
            show y.now.length ≤ _
            omega
        obtain ⟨k3, hk3, e3 | e3⟩ := sync1_jn hk2 m (setO j1 (lenO j1) (closeS 3 (F.loose.length : Nat) 99 (footS (p : Nat) F.feet)))
        · rw [e3]
          dsimp only
          rw [if_neg (by simp)]
          have hC3 := hC2 (syncF _) (runO_sync hrun) rfl
          exact ⟨0, _, k3, _, _, rfl, hk3, hC3, fun _ => ⟨⟨hC3, h.jp, rfl, by show J.feet + 1 = _; rw [h.jf], by show J.noted = _; rw [h.jn, List.append_nil], rfl⟩, rfl, by show 0 < F.feet + 1; omega, rfl⟩⟩
        · rw [e3]
          dsimp only
          rw [if_pos (by simp)]
          exact ⟨11, J, k3, _, _, rfl, hk3, hC2 _ hrun rfl, fun hh => by cases hh⟩
      · rw [e]
        dsimp only
        rw [if_pos (by simp)]
        exact ⟨11, J, k2, j1, F, rfl, hk2, hC1, fun hh => by cases hh⟩
    · rw [hpe]
      dsimp only
      rw [if_pos (by simp)]
      exact ⟨11, J, k1, j1, F, rfl, hk1, hC1, fun hh => by cases hh⟩
end
/-- A sector of the database is written, its page sealed in the journal. -/
theorem setO_now (m : Option Fl) {i : Nat} (hi : i ≤ lenO m) (d : ByteArray) {x : Fl} (hx : m = some x) (a : Nat) (ha : a < x.now.length) (hne : a ≠ i) : (setO m i d).now[a]? = x.now[a]? := by
  subst hx
  show (writeF x i d).now[a]? = _
  unfold writeF
  split
  · dsimp only
    rw [List.getElem?_append_left ha]
  · dsimp only
    rw [List.getElem?_set, if_neg (fun e => hne e.symm)]
theorem main1 {p : Nat} {J : JM} {m j : Option Fl} {F : FM} {c : Nat} (h : WayI p J m j F c) (hl : F.loose = []) (hf : 0 < F.feet) {n : Nat} (hn : n ≤ lenO m) (hs : n < p → ((n : Nat) : Int) ∈ J.noted) (d : ByteArray) :
    WayI p J (some (setO m n d)) j F (c + 1) := by
  have hlen := setO_len m hn d
  have hlm := h.core.lm
  refine ⟨⟨h.core.run, h.core.pages, h.core.feet, h.core.salt, h.core.data, fun hh => by omega, fun h0 => ?_, ?_, by have := h.core.lj; omega, by have := h.core.ll; omega⟩, h.jp, h.js, h.jf, h.jn, h.jl⟩
  · obtain ⟨x, hx, hx1, hx2⟩ := h.core.some h0
    have hlx : lenO m = x.now.length := by rw [hx]; rfl
    refine ⟨_, rfl, by omega, fun i hi hni => ?_⟩
    rw [setO_now m hn d hx i (by omega) (fun e => hni ?_)]
    · exact hx2 i hi hni
    · subst e
      have := hs hi
      rw [h.jn, hl, List.append_nil] at this
      exact this
  · show (setO m n d).now.length ≤ _
    omega
theorem mainsync1 {p : Nat} {J : JM} {x : Fl} {j : Option Fl} {F : FM} {c : Nat} (h : WayI p J (some x) j F c) (hf : 0 < F.feet) : WayI p J (some (syncF x)) j F c :=
  ⟨⟨h.core.run, h.core.pages, h.core.feet, h.core.salt, h.core.data, fun hh => by omega, fun h0 => by
    obtain ⟨x', hx, hx1, hx2⟩ := h.core.some h0
    cases hx
    exact ⟨_, rfl, hx1, hx2⟩, h.core.lm, h.core.lj, h.core.ll⟩, h.jp, h.js, h.jf, h.jn, h.jl⟩
/-- What is left behind the changes, however far they came. -/
def LeftI (p : Nat) (D : DM) (c : Nat) : Prop := ∃ k m j F, D = ⟨k, fs2 m j⟩ ∧ K1 k ∧ CoreI p m j F c
theorem LeftI.of {p : Nat} {k : Dk} {m j : Option Fl} {F : FM} {c c' : Nat} (hk : K1 k) (h : CoreI p m j F c) (hc : c ≤ c') : LeftI p ⟨k, fs2 m j⟩ c' := ⟨k, m, j, F, rfl, hk, h.mono hc⟩
theorem WayI.mono {p : Nat} {J : JM} {m j : Option Fl} {F : FM} {c c' : Nat} (h : WayI p J m j F c) (hc : c ≤ c') : WayI p J m j F c' := ⟨h.core.mono hc, h.jp, h.js, h.jf, h.jn, h.jl⟩
set_option maxRecDepth 100000 in
theorem changed1 {p : Nat} (hp : p < 9) (L : List ChT) : ∀ {J : JM} {m j : Option Fl} {F : FM} {b : Bool} {c : Nat} {k : Dk}, WayI p J m j F c → K1 k → (b = true → F.loose = [] ∧ 0 < F.feet) → c + 3 * L.length ≤ 900 →
    LeftI p (changedL (p : Nat) L J ⟨k, fs2 m j⟩ b).2 (c + 3 * L.length) := by
  induction L with
  | nil => exact fun h hk _ _ => LeftI.of hk h.core (by simp)
  | cons y L ih =>
    intro J m j F b c k h hk hbs hc
    rw [List.length_cons] at hc ⊢
    obtain ⟨q, _, hq2, hq3⟩ := pick_nat y p
    -- the note
    obtain ⟨e1, J1, k1, j1, F1, ha, hk1, hC1, hW1⟩ : ∃ e1 J1 k1 j1 F1, (e1, J1, ⟨k1, fs2 m j1⟩) = noteC J ⟨k, fs2 m j⟩ (p : Nat) (q : Nat) ∧ K1 k1 ∧ CoreI p m j1 F1 (c + 1) ∧
        (e1 = 0 → WayI p J1 m j1 F1 (c + 1) ∧ (q < p → ((q : Nat) : Int) ∈ J1.noted) ∧ (¬ (((q : Nat) : Int) < ((p : Nat) : Int) ∧ ((q : Nat) : Int) ∉ J.noted) → F1 = F)) := by
      rcases Classical.em (((q : Nat) : Int) < ((p : Nat) : Int) ∧ ((q : Nat) : Int) ∉ J.noted) with hcq | hcq
      · obtain ⟨e, J', k', j', F', e1, hk', hC', hW'⟩ := note1 h hk hp (by omega) (q := (q : Nat)) ⟨by omega, hcq.1⟩
        exact ⟨e, J', k', j', F', by rw [noteC_yes hcq]; exact e1.symm, hk', hC', fun he => ⟨(hW' he).1, fun _ => (hW' he).2, fun hh => absurd hcq hh⟩⟩
      · refine ⟨0, J, k, j, F, noteC_no hcq, hk, h.core.mono (by omega), fun _ => ⟨h.mono (by omega), fun hqp => ?_, fun _ => rfl⟩⟩
        exact Classical.byContradiction fun hh => hcq ⟨by omega, hh⟩
    rcases Classical.em (¬ e1 = 0) with he1 | he1
    · rw [chg1 hq3 ha he1]
      exact LeftI.of hk1 hC1 (by omega)
    replace he1 := Classical.not_not.1 he1
    obtain ⟨hW1, hin, hsame⟩ := hW1 he1
    -- the seal
    obtain ⟨e4, J4, k4, j4, F4, hs, hk4, hC4, hW4⟩ : ∃ e4 J4 k4 j4 F4, (e4, J4, ⟨k4, fs2 m j4⟩) = sealC J J1 ⟨k1, fs2 m j1⟩ (p : Nat) (q : Nat) b ∧ K1 k4 ∧ CoreI p m j4 F4 (c + 2) ∧
        (e4 = 0 → WayI p J4 m j4 F4 (c + 2) ∧ F4.loose = [] ∧ 0 < F4.feet ∧ J4.noted = J1.noted) := by
      rcases Classical.em ((((q : Nat) : Int) < ((p : Nat) : Int) ∧ ((q : Nat) : Int) ∉ J.noted) ∨ b = false) with hcq | hcq
      · obtain ⟨e, J', k', j', F', e1, hk', hC', hW'⟩ := seal1 hW1 hk1 hp (by omega)
        exact ⟨e, J', k', j', F', by rw [sealC_yes hcq]; exact e1.symm, hk', hC', hW'⟩
      · have hb : b = true := by
          cases b with
          | true => rfl
          | false => exact absurd (.inr rfl) hcq
        have hFF := hsame (fun hh => hcq (.inl hh))
        obtain ⟨hb1, hb2⟩ := hbs hb
        exact ⟨0, J1, k1, j1, F1, sealC_no (fun hh => hcq (.inl hh)) hb, hk1, hC1.mono (by omega), fun _ => ⟨hW1.mono (by omega), by rw [hFF]; exact hb1, by rw [hFF]; exact hb2, rfl⟩⟩
    rcases Classical.em (¬ e4 = 0) with he4 | he4
    · rw [chg2 hq3 ha he1 hs he4]
      exact LeftI.of hk4 hC4 (by omega)
    replace he4 := Classical.not_not.1 he4
    obtain ⟨hW4, hlo, hfe, hno⟩ := hW4 he4
    have fin : ∀ {J' : JM} {m' j' : Option Fl} {k' : Dk}, WayI p J' m' j' F4 (c + 3) → K1 k' → LeftI p (changedL (p : Nat) L J' ⟨k', fs2 m' j'⟩ true).2 (c + 3 * (L.length + 1)) := fun hW hk' => by
      obtain ⟨k2, m2, j2, F2, e, hk2, hC2⟩ := ih (b := true) hW hk' (fun _ => ⟨hlo, hfe⟩) (by omega)
      exact ⟨k2, m2, j2, F2, e, hk2, hC2.mono (by omega)⟩
    have hsz : max (sizeD ⟨k4, fs2 m j4⟩ mainN) 0 = (lenO m : Nat) := by rw [size2_main, max_siz]
    have hlm := hW4.core.lm
    have hlj := hW4.core.lj
    rcases Classical.em (max (sizeD ⟨k4, fs2 m j4⟩ mainN) 0 < ((q : Nat) : Int)) with hm | hm
    · rw [chg3 hq3 ha he1 hs he4 hm]
      exact fin (hW4.mono (by omega)) hk4
    · obtain ⟨k5, hk5, e5 | e5⟩ := write1_main hk4 m j4 (i := q) (d := secM (q : Nat) y.2.1) (secM_size (by omega) _) (by omega) (by omega)
      · have hW5 := main1 hW4 hlo hfe (n := q) (by omega) (fun hqp => by rw [hno]; exact hin hqp) (secM (q : Nat) y.2.1)
        cases hy : y.2.2 with
        | false =>
          rw [chg7 hq3 ha he1 hs he4 hm e5.symm rfl hy]
          exact fin (hW5.mono (by omega)) hk5
        | true =>
          obtain ⟨k6, hk6, e6 | e6⟩ := sync1_main hk5 (setO m q (secM (q : Nat) y.2.1)) j4
          · rw [chg6 hq3 ha he1 hs he4 hm e5.symm rfl hy e6.symm rfl]
            exact fin ((mainsync1 hW5 hfe).mono (by omega)) hk6
          · rw [chg5 hq3 ha he1 hs he4 hm e5.symm rfl hy e6.symm (by decide)]
            exact LeftI.of hk6 hW5.core (by omega)
      · rw [chg4 hq3 ha he1 hs he4 hm e5.symm (by decide)]
        exact LeftI.of hk5 hW4.core (by omega)
/-! Back: a database is as its journal says it was. -/
def putP : List Pg → Int → ByteArray → List Pg
  | [], n, d => [(n, d)]
  | q :: r, n, d => if q.1 = n then (n, d) :: r else q :: putP r n d
/-- The pages as they stand in the map that restore makes: the first of each. -/
def firstM (l : List Pg) : List Pg := l.foldr (fun q M => putP M q.1 q.2) []
def lookP (M : List Pg) (n : Int) : ByteArray := ((M.find? fun q => q.1 == n).map fun q => q.2).getD ⟨#[]⟩
theorem putP_mem {M : List Pg} {n : Int} {d : ByteArray} : ∀ {q : Pg}, q ∈ putP M n d → q = (n, d) ∨ q ∈ M := by
  induction M with
  | nil => intro q h; exact .inl (List.mem_singleton.1 h)
  | cons a M ih =>
    intro q h
    unfold putP at h
    split at h
    · rcases List.mem_cons.1 h with h | h
      · exact .inl h
      · exact .inr (List.mem_cons_of_mem _ h)
    · rcases List.mem_cons.1 h with h | h
      · exact .inr (h ▸ List.mem_cons_self)
      · rcases ih h with h | h
        · exact .inl h
        · exact .inr (List.mem_cons_of_mem _ h)
theorem putP_keys {M : List Pg} {n : Int} {d : ByteArray} {a : Int} : a ∈ (putP M n d).map (fun q => q.1) ↔ a = n ∨ a ∈ M.map (fun q => q.1) := by
  induction M with
  | nil => simp [putP]
  | cons b M ih =>
    unfold putP
    split
    · rename_i h
      simp only [List.map_cons, List.mem_cons, h]
      constructor
      · rintro (h | h)
        · exact .inl h
        · exact .inr (.inr h)
      · rintro (h | h | h)
        · exact .inl h
        · exact .inl h
        · exact .inr h
    · simp only [List.map_cons, List.mem_cons, ih]
      constructor
      · rintro (h | h | h)
        · exact .inr (.inl h)
        · exact .inl h
        · exact .inr (.inr h)
      · rintro (h | h | h)
        · exact .inr (.inl h)
        · exact .inl h
        · exact .inr (.inr h)
theorem firstM_mem {l : List Pg} {q : Pg} (h : q ∈ firstM l) : q ∈ l := by
  induction l with
  | nil => cases h
  | cons a l ih =>
    rcases putP_mem h with h | h
    · rw [h]; exact List.mem_cons_self
    · exact List.mem_cons_of_mem _ (ih h)
theorem firstM_keys {l : List Pg} {a : Int} : a ∈ (firstM l).map (fun q => q.1) ↔ a ∈ l.map (fun q => q.1) := by
  induction l with
  | nil => exact Iff.rfl
  | cons b l ih =>
    show a ∈ (putP (firstM l) b.1 b.2).map _ ↔ _
    rw [putP_keys, ih, List.map_cons, List.mem_cons]
theorem lookP_mem {M : List Pg} {n : Int} (h : n ∈ M.map fun q => q.1) : (n, lookP M n) ∈ M := by
  obtain ⟨q, hq, rfl⟩ := List.mem_map.1 h
  unfold lookP
  cases hf : M.find? (fun r => r.1 == q.1) with
  | none =>
    have := List.find?_eq_none.1 hf q hq
    simp at this
  | some r =>
    have h1 := List.find?_some hf
    have h2 := List.mem_of_find?_eq_some hf
    simp only [beq_iff_eq] at h1
    simp only [Option.map_some, Option.getD_some]
    rw [← h1]
    exact h2
noncomputable def writeAll (M : List Pg) : List Int → DM → Int × DM
  | [], D => (0, D)
  | n :: ks, D =>
    if closeE 1 n (lookP M n) = 0 then
      let w := writeD D mainN n (closeS 1 n 0 (lookP M n))
      if w.1 = 0 then writeAll M ks w.2 else (w.1, w.2)
    else (closeE 1 n (lookP M n), D)
noncomputable def restoreD (p : Int) (M : List Pg) (ks : List Int) (D : DM) : Int × DM :=
  let w := writeAll M ks D
  if w.1 ≠ 0 then w
  else
    let c := if p < sizeD w.2 mainN then cutD w.2 mainN p else (0, w.2)
    if c.1 ≠ 0 then c else if sizeD c.2 mainN < 0 then (0, c.2) else syncD c.2 mainN
def badE (e : Int) : Int := if e = 14 then 30 else e
theorem writeAll_up {p : Nat} (hp : p < 9) {M : List Pg} (hM : ∀ q ∈ M, (0 ≤ q.1 ∧ q.1 < (p : Nat)) ∧ q.2 = pgS 232 q.1) {j : Option Fl} (hj : lenO j ≤ 1000) : ∀ (ks : List Int), (∀ n ∈ ks, n ∈ M.map fun q => q.1) → ∀ {x : Fl} {k : Dk} {n : Int},
    UpD ⟨k, fs2 (some x) j⟩ n → k.room = 16384 → p ≤ x.now.length → x.now.length ≤ 1000 →
    ∃ k' x', writeAll M ks ⟨k, fs2 (some x) j⟩ = (0, ⟨k', fs2 (some x') j⟩) ∧ UpD ⟨k', fs2 (some x') j⟩ (n + ks.length) ∧ k'.room = 16384 ∧ x'.now.length = x.now.length ∧
      ∀ i : Nat, i < p → (((i : Nat) : Int) ∈ ks → x'.now[i]? = (laidM p)[i]?) ∧ (((i : Nat) : Int) ∉ ks → x'.now[i]? = x.now[i]?)
  | [], _, x, k, n, h, hr, _, _ => ⟨k, x, rfl, h.mono (by simp), hr, rfl, fun i _ => ⟨fun hh => (by cases hh), fun _ => rfl⟩⟩
  | a :: ks, hks, x, k, n, h, hr, hpx, hxl => by
    have ha := hM _ (lookP_mem (hks a List.mem_cons_self))
    dsimp only at ha
    obtain ⟨⟨ha0, ha1⟩, ha2⟩ := ha
    obtain ⟨b, rfl⟩ := Int.eq_ofNat_of_zero_le ha0
    have hbp : b < p := by omega
    have hc : closeE 1 (b : Nat) (lookP M (b : Nat)) = 0 := by rw [ha2]; exact (closed_ok (s := 0) (by decide) (by omega) (pgS_size _ _)).1
    have hw := write2_main h.down h.at0 (some x) j (i := b) (d := secM (b : Nat) (b : Nat)) (secM_size (by omega) _) (by show b ≤ x.now.length; omega) (by show ((x.now.length + lenO j : Nat) : Int) < _; rw [hr]; omega)
    have hok := write_okN h.ok mainN (b : Nat) (secM (b : Nat) (b : Nat))
    rw [hw] at hok
    have hcs : closeS 1 (b : Nat) 0 (lookP M (b : Nat)) = secM (b : Nat) (b : Nat) := by rw [ha2]; rfl
    have hx1 : (setO (some x) b (secM (b : Nat) (b : Nat))).now = x.now.set b (some (secM (b : Nat) (b : Nat))) := by
      show (writeF x b _).now = _
      unfold writeF
      rw [if_neg (by omega)]
    have hl1 : (setO (some x) b (secM (b : Nat) (b : Nat))).now.length = x.now.length := by rw [hx1, List.length_set]
    obtain ⟨k', x', e1, e2, e3, e4, e5⟩ := writeAll_up hp hM hj ks (fun m hm => hks m (List.mem_cons_of_mem _ hm)) (x := setO (some x) b (secM (b : Nat) (b : Nat))) (k := upK k) (n := n + 1) ⟨hok, h.down, h.at0⟩ hr (by rw [hl1]; exact hpx) (by rw [hl1]; exact hxl)
    refine ⟨k', x', ?_, e2.mono (by rw [List.length_cons]; omega), e3, e4.trans hl1, fun i hi => ⟨fun hm => ?_, fun hm => ?_⟩⟩
    · unfold writeAll
      rw [if_pos hc, hcs, hw]
      dsimp only
      rw [if_pos rfl, e1]
    · by_cases hik : ((i : Nat) : Int) ∈ ks
      · exact (e5 i hi).1 hik
      · rcases List.mem_cons.1 hm with hm | hm
        · have hib : i = b := by omega
          subst hib
          rw [(e5 i hi).2 hik, hx1, List.getElem?_set, if_pos rfl, if_pos (by omega)]
          unfold laidM
          rw [List.getElem?_map, List.getElem?_range hi]
          rfl
        · exact absurd hm hik
    · rw [(e5 i hi).2 (fun hh => hm (List.mem_cons_of_mem _ hh)), hx1, List.getElem?_set, if_neg]
      intro hbi
      subst hbi
      exact hm List.mem_cons_self
theorem laidF_pos {p : Nat} (hp : 0 < p) : laidF p = some ⟨laidM p, (laidM p).map some, List.replicate p false, true⟩ := by unfold laidF; rw [if_neg (by omega)]
theorem cut2_main {k : Dk} (h1 : k.down = false) (h2 : k.at' = 0) (x : Fl) (j : Option Fl) {n : Nat} (hn : n ≤ x.now.length) : cutD ⟨k, fs2 (some x) j⟩ mainN (n : Nat) = (0, ⟨upK k, fs2 (some (cutF x n)) j⟩) := by
  unfold cutD
  rw [decide_eq_true (Int.natCast_nonneg n), found_up main_good h1 h2 (find2_main _ _), find2_main]
  dsimp only [Option.getD_some]
  rw [if_neg (by simp), if_neg (by omega), put2_main, Int.toNat_natCast]
  rfl
/-- The database is as it was laid. -/
def WasM (p : Nat) (m : Option Fl) : Prop := (p = 0 → lenO m = 0) ∧ (0 < p → ∃ x, m = some x ∧ x.now = laidM p)
theorem restore_up {p : Nat} (hp : p < 9) {M : List Pg} (hM : ∀ q ∈ M, (0 ≤ q.1 ∧ q.1 < (p : Nat)) ∧ q.2 = pgS 232 q.1) {j : Option Fl} (hj : lenO j ≤ 1000) {ks : List Int} (hks : ∀ n, n ∈ ks ↔ n ∈ M.map fun q => q.1)
    {m : Option Fl} {k : Dk} {n : Int} (h : UpD ⟨k, fs2 m j⟩ n) (hr : k.room = 16384) (hl : lenO m ≤ 1000)
    (hmain : 0 < p → ∃ x, m = some x ∧ p ≤ x.now.length ∧ ∀ i : Nat, i < p → ((i : Nat) : Int) ∉ ks → x.now[i]? = (laidM p)[i]?) :
    ∃ k' m', restoreD (p : Nat) M ks ⟨k, fs2 m j⟩ = (0, ⟨k', fs2 m' j⟩) ∧ UpD ⟨k', fs2 m' j⟩ (n + ks.length + 2) ∧ WasM p m' := by
  -- the writes
  have hw : ∃ k1 m1, writeAll M ks ⟨k, fs2 m j⟩ = (0, ⟨k1, fs2 m1 j⟩) ∧ UpD ⟨k1, fs2 m1 j⟩ (n + ks.length) ∧ (0 < p → ∃ x, m1 = some x ∧ p ≤ x.now.length ∧ x.now.take p = laidM p) := by
    rcases Nat.eq_zero_or_pos p with h0 | h0
    · have hk0 : ks = [] := by
        cases hk : ks with
        | nil => rfl
        | cons a r =>
          obtain ⟨q, hq, _⟩ := List.mem_map.1 ((hks a).1 (by rw [hk]; exact List.mem_cons_self))
          have := (hM q hq).1
          omega
      subst hk0
      exact ⟨k, m, rfl, h.mono (by simp), fun hh => by omega⟩
    · obtain ⟨x, rfl, hx1, hx2⟩ := hmain h0
      obtain ⟨k1, x1, e1, e2, e3, e4, e5⟩ := writeAll_up hp hM hj ks (fun a ha => (hks a).1 ha) h hr hx1 hl
      refine ⟨k1, some x1, e1, e2, fun _ => ⟨x1, rfl, by omega, List.ext_getElem? fun i => ?_⟩⟩
      rw [List.getElem?_take]
      split
      · rename_i hi
        by_cases hik : ((i : Nat) : Int) ∈ ks
        · exact (e5 i hi).1 hik
        · rw [(e5 i hi).2 hik]; exact hx2 i hi hik
      · rw [List.getElem?_eq_none (by rw [laidM_len]; omega)]
  obtain ⟨k1, m1, w1, w2, w3⟩ := hw
  unfold restoreD
  dsimp only
  rw [w1]
  dsimp only
  rw [if_neg (by simp), size2_main]
  -- the cut
  have hc : ∃ k2 m2, (if ((p : Nat) : Int) < sizO m1 then cutD ⟨k1, fs2 m1 j⟩ mainN (p : Nat) else (0, ⟨k1, fs2 m1 j⟩)) = (0, ⟨k2, fs2 m2 j⟩) ∧ UpD ⟨k2, fs2 m2 j⟩ (n + ks.length + 1) ∧ WasM p m2 := by
    split
    · rename_i hlt
      cases m1 with
      | none => exact absurd hlt (by show ¬ ((p : Nat) : Int) < -1; omega)
      | some x =>
        have hlx : p ≤ x.now.length := by have : ((p : Nat) : Int) < ((x.now.length : Nat) : Int) := hlt; omega
        have hok := cut_okN w2.ok mainN (p : Nat)
        have e := cut2_main w2.down w2.at0 x j hlx
        rw [e] at hok
        refine ⟨upK k1, some (cutF x p), e, ⟨hok, w2.down, w2.at0⟩, fun h0 => ?_, fun h0 => ?_⟩
        · show (x.now.take p).length = 0
          rw [h0]; rfl
        · obtain ⟨x', hx, _, ht⟩ := w3 h0
          cases hx
          exact ⟨_, rfl, ht⟩
    · rename_i hlt
      refine ⟨k1, m1, rfl, w2.mono (by omega), fun h0 => ?_, fun h0 => ?_⟩
      · cases m1 with
        | none => rfl
        | some x =>
          have : ¬ ((p : Nat) : Int) < ((x.now.length : Nat) : Int) := hlt
          show x.now.length = 0
          omega
      · obtain ⟨x, rfl, hx1, ht⟩ := w3 h0
        have : ¬ ((p : Nat) : Int) < ((x.now.length : Nat) : Int) := hlt
        exact ⟨x, rfl, by rw [← ht, List.take_of_length_le (by omega)]⟩
  obtain ⟨k2, m2, c1, c2, c3⟩ := hc
  rw [c1]
  dsimp only
  rw [if_neg (by simp), size2_main]
  cases m2 with
  | none =>
    rw [if_pos (by show (-1 : Int) < 0; decide)]
    exact ⟨k2, none, rfl, c2.mono (by omega), c3⟩
  | some x =>
    rw [if_neg (by show ¬ ((x.now.length : Nat) : Int) < 0; omega)]
    have hok := sync_okN c2.ok mainN
    have e := sync2_main c2.down c2.at0 x j
    rw [e] at hok
    refine ⟨upK k2, some (syncF x), e, ⟨hok.mono (by omega), c2.down, c2.at0⟩, c3.1, fun h0 => ?_⟩
    obtain ⟨x', hx, hx2⟩ := c3.2 h0
    cases hx
    exact ⟨_, rfl, hx2⟩
/-- What is found of such a journal, where nothing is amiss. -/
theorem find_core {p : Nat} {m j : Option Fl} {F : FM} {c : Nat} (hC : CoreI p m j F c) {k : Dk} {n : Int} (h : UpD ⟨k, fs2 m j⟩ n) : (findJ ⟨k, fs2 m j⟩).1 = (0, F) ∧ (findJ ⟨k, fs2 m j⟩).2.fs = fs2 m j ∧ UpD (findJ ⟨k, fs2 m j⟩).2 (n + c) := by
  unfold findJ
  rw [size2_jn, max_siz, Int.toNat_natCast]
  cases j with
  | none =>
    have : F = fm0 := hC.run
    subst this
    exact ⟨rfl, rfl, h.mono (by omega)⟩
  | some y =>
    obtain ⟨_, hrun⟩ := hC.run
    obtain ⟨r1, r2, r3⟩ := find_run y.now.length 0 (F := fm0) (F' := F) h (find2_jn _ _) (by omega) (by rw [List.drop_zero]; exact hrun)
    have hl := hC.lj
    exact ⟨r1, r2, r3.mono (by show _ ≤ n + _; have : lenO (some y) = y.now.length := rfl; omega)⟩
theorem beg_room (k : Dk) (s : ByteArray) (r : Bool) : (begS k s r).2.room = k.room := by
  unfold begS
  split
  · rfl
  · split
    · rfl
    · split
      · rfl
      · split
        · rfl
        · split
          · rfl
          · split <;> rfl
theorem read_room (D : DM) (s : ByteArray) (i : Int) : (readD D s i).2.k.room = D.k.room := beg_room D.k s true
theorem find_room : ∀ (m i : Nat) (F : FM) (D : DM), (findL m i F D).2.k.room = D.k.room
  | 0, _, _, _ => rfl
  | m + 1, i, F, D => by
    unfold findL
    dsimp only
    split
    · exact read_room D jnN (i : Nat)
    · cases stepF F (readD D jnN (i : Nat)).1.1 (decide (i = 0)) with
      | none => exact read_room D jnN (i : Nat)
      | some F' => exact (find_room m (i + 1) F' _).trans (read_room D jnN (i : Nat))
/-- All that Back does where nothing is amiss, but for the order of the pages that it writes. -/
theorem back_core {p : Nat} (hp : p < 9) {m j : Option Fl} {F : FM} {c : Nat} (hc : c ≤ 900) (hC : CoreI p m j F c) {k : Dk} {n : Int} (h : UpD ⟨k, fs2 m j⟩ n) (hr : k.room = 16384) :
    ∃ k1, findJ ⟨k, fs2 m j⟩ = ((0, F), ⟨k1, fs2 m j⟩) ∧ UpD ⟨k1, fs2 m j⟩ (n + c) ∧
      (0 < F.feet → ∀ ks : List Int, (∀ a, a ∈ ks ↔ a ∈ (firstM F.sure).map fun q => q.1) → ∃ k2 m2, restoreD F.pages (firstM F.sure) ks ⟨k1, fs2 m j⟩ = (0, ⟨k2, fs2 m2 j⟩) ∧ UpD ⟨k2, fs2 m2 j⟩ (n + c + ks.length + 2) ∧ WasM p m2) ∧
      (¬ 0 < F.feet → WasM p m) := by
  obtain ⟨f1, f2, f3⟩ := find_core hC h
  have f4 : (findJ ⟨k, fs2 m j⟩).2.k.room = 16384 := (find_room _ _ _ _).trans hr
  obtain ⟨⟨e, D1⟩, hD1⟩ : ∃ r, r = findJ ⟨k, fs2 m j⟩ := ⟨_, rfl⟩
  rw [← hD1] at f1 f2 f3 f4
  dsimp only at f1 f2 f3 f4
  obtain ⟨k1, fs1⟩ := D1
  dsimp only at f2 f4
  subst f1 f2
  refine ⟨k1, hD1.symm, f3, fun hf ks hks => ?_, fun hf => ?_⟩
  · have hpg : F.pages = (p : Nat) := by rw [hC.pages, if_neg (by omega)]
    rw [hpg]
    exact restore_up hp (M := firstM F.sure) (fun q hq => hC.data q (List.mem_append_left _ (firstM_mem hq))) (by have := hC.lj; omega) hks f3 f4 (by have := hC.lm; omega) (fun h0 => by
      obtain ⟨x, hx, hx1, hx2⟩ := hC.some h0
      exact ⟨x, hx, hx1, fun i hi hni => hx2 i hi fun hm => hni ((hks _).2 (firstM_keys.2 hm))⟩)
  · have h0 : F.feet = 0 := by have := hC.feet; omega
    obtain ⟨_, hm⟩ := hC.none h0
    subst hm
    refine ⟨fun hp0 => ?_, fun hp0 => ?_⟩
    · subst hp0; rfl
    · exact ⟨_, laidF_pos hp0, rfl⟩
/-- The journal is gone; the database is read as it was laid. -/
theorem gon2 {k : Dk} {m j : Option Fl} {n : Int} (h : UpD ⟨k, fs2 m j⟩ n) : ∃ k', gonJ ⟨k, fs2 m j⟩ = (0, ⟨k', fs2 m none⟩) ∧ UpD ⟨k', fs2 m none⟩ (n + 1) := by
  unfold gonJ
  rw [size2_jn]
  cases j with
  | none =>
    rw [if_pos (by show (-1 : Int) < 0; decide)]
    exact ⟨k, rfl, h.mono (by omega)⟩
  | some y =>
    rw [if_neg (by show ¬ ((y.now.length : Nat) : Int) < 0; omega)]
    have hok := drop_okN h.ok jnN
    have e := drop2_jn h.down h.at0 m y
    rw [e] at hok
    exact ⟨upK k, e, hok, h.down, h.at0⟩
theorem was_read {p : Nat} {m : Option Fl} (hw : WasM p m) (hp : 0 < p) {k : Dk} {n : Int} (h : UpD ⟨k, fs2 m none⟩ n) {i : Nat} (hi : i < p) : readD ⟨k, fs2 m none⟩ mainN (i : Nat) = ((secM (i : Nat) (i : Nat), 0), ⟨upK k, fs2 m none⟩) ∧ UpD ⟨upK k, fs2 m none⟩ (n + 1) := by
  obtain ⟨x, rfl, hx⟩ := hw.2 hp
  have hok := read_okN h.ok mainN (i : Nat)
  have e := read_up (i := ((i : Nat) : Int)) main_good h.down h.at0 (find2_main (some x) none)
  rw [e] at hok
  refine ⟨e.trans ?_, hok, h.down, h.at0⟩
  have : readF x (i : Nat) = (secM (i : Nat) (i : Nat), 0) := by
    unfold readF
    rw [if_neg (by omega), Int.toNat_natCast, hx]
    unfold laidM
    rw [List.getElem?_map, List.getElem?_range hi]
    rfl
  rw [this]
  rfl
theorem was_size {p : Nat} {m : Option Fl} (hw : WasM p m) (k : Dk) (j : Option Fl) : (p = 0 → sizeD ⟨k, fs2 m j⟩ mainN ≤ 0) ∧ (0 < p → sizeD ⟨k, fs2 m j⟩ mainN = (p : Nat)) := by
  rw [size2_main]
  refine ⟨fun h0 => ?_, fun h0 => ?_⟩
  · have := hw.1 h0
    cases m with
    | none => show (-1 : Int) ≤ 0; decide
    | some x => show ((x.now.length : Nat) : Int) ≤ 0; have : x.now.length = 0 := this; omega
  · obtain ⟨x, rfl, hx⟩ := hw.2 h0
    show ((x.now.length : Nat) : Int) = _
    rw [hx, laidM_len]
/-- The first Back meets two errors: the files stay. -/
theorem back_armed {p : Nat} {m j : Option Fl} {F : FM} {c : Nat} (hC : CoreI p m j F c) {k : Dk} (hd : k.down = false) (h1 : k.at' = 1) (h2 : k.kind = 1) (h3 : k.more = 1) :
    (j = none ∧ foundJ ⟨k, fs2 m j⟩ = ((0, 0, [], false), ⟨k, fs2 m j⟩) ∧ gonJ ⟨k, fs2 m j⟩ = (0, ⟨k, fs2 m j⟩)) ∨ ∃ k', foundJ ⟨k, fs2 m j⟩ = ((11, 0, [], false), ⟨k', fs2 m j⟩) ∧ k'.down = false ∧ k'.room = k.room := by
  cases j with
  | none =>
    have hz : sizeD ⟨k, fs2 m none⟩ jnN < 0 := by rw [size2_jn]; show (-1 : Int) < 0; decide
    refine .inl ⟨rfl, ?_, by unfold gonJ; rw [if_pos hz]⟩
    have e : findJ ⟨k, fs2 m none⟩ = ((0, fm0), ⟨k, fs2 m none⟩) := by
      unfold findJ
      rw [show (max (sizeD ⟨k, fs2 m none⟩ jnN) 0).toNat = 0 by omega]
      rfl
    unfold foundJ
    rw [e]
    rfl
  | some y =>
    obtain ⟨hne, _⟩ := hC.run
    have hb : begS k jnN true = (11, { k with ops := k.ops + 1, more := k.more - 1 }) := by
      unfold begS
      rw [if_neg (by rw [jn_good]; simp), if_neg (by rw [hd]; decide), if_neg (by omega), if_neg (by omega), if_neg (by omega), if_pos (by omega)]
    have hr : readD ⟨k, fs2 m (some y)⟩ jnN ((0 : Nat) : Int) = ((⟨#[]⟩, 11), ⟨{ k with ops := k.ops + 1, more := k.more - 1 }, fs2 m (some y)⟩) := by
      unfold readD foundD
      dsimp only
      rw [hb]
      rfl
    have e : findJ ⟨k, fs2 m (some y)⟩ = ((11, fm0), ⟨{ k with ops := k.ops + 1, more := k.more - 1 }, fs2 m (some y)⟩) := by
      unfold findJ
      rw [size2_jn, max_siz, Int.toNat_natCast]
      obtain ⟨a, ha⟩ : ∃ a, lenO (some y) = a + 1 := ⟨y.now.length - 1, by have : y.now.length ≠ 0 := fun h => hne (List.eq_nil_of_length_eq_zero h); show y.now.length = _; omega⟩
      rw [ha]
      unfold findL
      dsimp only
      rw [hr]
      rfl
    refine .inr ⟨{ k with ops := k.ops + 1, more := k.more - 1 }, ?_, hd, rfl⟩
    unfold foundJ
    rw [e]
    rfl
/-! The law's calls, one behind the other. -/
theorem noteC_okN {D : DM} {m : Int} (h : D.OkN m) (J : JM) (p n : Int) : (noteC J D p n).2.2.OkN (m + 1) := by
  unfold noteC
  split
  · exact note_okN h J n _
  · exact h.mono (by omega)
theorem sealC_okN {D : DM} {m : Int} (h : D.OkN m) (J0 J : JM) (p n : Int) (b : Bool) : (sealC J0 J D p n b).2.2.OkN (m + 3) := by
  unfold sealC
  split
  · exact seal_okN h J
  · exact h.mono (by omega)
theorem changedL_okN (p : Int) : ∀ (L : List ChT) {J : JM} {D : DM} {b : Bool} {n : Int}, D.OkN n → (changedL p L J D b).2.OkN (n + 6 * L.length)
  | [], J, D, b, n, h => h.mono (by simp)
  | y :: L, J, D, b, n, h => by
    have ha := noteC_okN h J p (pickN y p)
    have hs := sealC_okN ha J (noteC J D p (pickN y p)).2.1 p (pickN y p) b
    have hw := write_okN hs mainN (pickN y p) (secM (pickN y p) y.2.1)
    have ht := sync_okN hw mainN
    unfold changedL
    dsimp only
    rw [List.length_cons]
    split
    · exact ha.mono (by omega)
    · split
      · exact hs.mono (by omega)
      · split
        · exact (changedL_okN p L hs).mono (by omega)
        · split
          · exact hw.mono (by omega)
          · split
            · split
              · exact ht.mono (by omega)
              · exact (changedL_okN p L ht).mono (by omega)
            · exact (changedL_okN p L hw).mono (by omega)
theorem changedD_okN (p : Int) (L : List ChT) {D : DM} {n : Int} (h : D.OkN n) : (changedD p L D).2.OkN (n + 120) := by
  have hl : (L.take 20).length ≤ 20 := by rw [List.length_take]; omega
  unfold changedD
  exact (changedL_okN p (L.take 20) h).mono (by omega)
theorem fails_start {p : Nat} {D : DM} (h : LaydR p D) (hp : p < 9) (a : Int) (L : List ChT) : LeftI p (changedD (p : Nat) L (armD D a 1 2)).2 60 ∧ sizeD (armD D a 1 2) jnN < 0 := by
  have hf := h.fs
  have hr := h.room
  obtain ⟨⟨_, down, _⟩, _, _⟩ := h
  obtain ⟨k, fs⟩ := D
  dsimp only at hf hr down
  subst hf
  obtain ⟨k', hk', e⟩ : ∃ k', K1 k' ∧ armD ⟨k, fs2 (laidF p) none⟩ a 1 2 = ⟨k', fs2 (laidF p) none⟩ := ⟨(armD ⟨k, fs2 (laidF p) none⟩ a 1 2).k, ⟨down, rfl, hr⟩, rfl⟩
  rw [e]
  have hl : (L.take 20).length ≤ 20 := by rw [List.length_take]; omega
  have hC : CoreI p (laidF p) none fm0 0 := by
    refine ⟨rfl, rfl, Int.le_refl _, fun hh => absurd rfl hh, fun q hq => (by cases hq), fun _ => ⟨rfl, rfl⟩, fun h0 => ⟨_, laidF_pos h0, by dsimp only; rw [laidM_len]; exact Nat.le_refl _, fun _ _ _ => rfl⟩, ?_, Nat.le_refl _, Nat.le_refl _⟩
    rcases Nat.eq_zero_or_pos p with h0 | h0
    · subst h0; exact Nat.zero_le _
    · rw [laidF_pos h0]; show (laidM p).length ≤ _; rw [laidM_len]; omega
  refine ⟨?_, by rw [size2_jn]; show (-1 : Int) < 0; decide⟩
  obtain ⟨k2, m2, j2, F2, e2, hk2, hC2⟩ := changed1 hp (L.take 20) (J := ⟨(p : Nat), 99, [], 0, 0⟩) (b := false) (c := 0) ⟨hC, rfl, rfl, rfl, rfl, rfl⟩ hk' (fun hh => by cases hh) (by omega)
  exact ⟨k2, m2, j2, F2, by unfold changedD; exact e2, hk2, hC2.mono (by omega)⟩
/-- What Back does, but for the order in which it writes. -/
def BackR (D : DM) (e : Int) (D' : DM) : Prop :=
  if (foundJ D).1.1 ≠ 0 then e = (foundJ D).1.1 ∧ D' = (foundJ D).2
  else if (foundJ D).1.2.2.2 = true then
    ∃ ks : List Int, ks.Pairwise (· < ·) ∧ (∀ a, a ∈ ks ↔ a ∈ (firstM (foundJ D).1.2.2.1).map fun q => q.1) ∧
      (if (restoreD (foundJ D).1.2.1 (firstM (foundJ D).1.2.2.1) ks (foundJ D).2).1 ≠ 0 then e = badE (restoreD (foundJ D).1.2.1 (firstM (foundJ D).1.2.2.1) ks (foundJ D).2).1 ∧ D' = (restoreD (foundJ D).1.2.1 (firstM (foundJ D).1.2.2.1) ks (foundJ D).2).2
        else (e, D') = gonJ (restoreD (foundJ D).1.2.1 (firstM (foundJ D).1.2.2.1) ks (foundJ D).2).2)
  else (e, D') = gonJ (foundJ D).2
theorem back_first {p : Nat} {D : DM} {c : Nat} (h : LeftI p D c) {e : Int} {D' : DM} (hb : BackR (armD D 1 1 1) e D') : LeftI p D' c ∨ ∃ k m j F, D' = ⟨k, fs2 m j⟩ ∧ k.down = false ∧ k.room = 16384 ∧ CoreI p m j F c := by
  obtain ⟨k, m, j, F, rfl, hk, hC⟩ := h
  have hd : (armD ⟨k, fs2 m j⟩ 1 1 1) = ⟨{ k with at' := 1, kind := 1, more := 1 }, fs2 m j⟩ := rfl
  rw [hd] at hb
  right
  rcases back_armed hC (k := { k with at' := 1, kind := 1, more := 1 }) hk.down rfl rfl rfl with ⟨_, h1, h2⟩ | ⟨k', h1, h2, h3⟩
  · unfold BackR at hb
    rw [h1] at hb
    dsimp only at hb
    rw [if_neg (by simp), if_neg (by simp), h2] at hb
    obtain ⟨_, rfl⟩ := Prod.mk.inj hb
    exact ⟨_, m, j, F, rfl, hk.down, hk.room, hC⟩
  · unfold BackR at hb
    rw [h1] at hb
    dsimp only at hb
    rw [if_pos (by decide)] at hb
    obtain ⟨_, rfl⟩ := hb
    exact ⟨k', m, j, F, rfl, h2, h3.trans hk.room, hC⟩
theorem back_second {p : Nat} (hp : p < 9) {k : Dk} {m j : Option Fl} {F : FM} {c : Nat} (hc : c ≤ 900) (hC : CoreI p m j F c) (hd : k.down = false) (hr : k.room = 16384) {n : Int} (hok : DM.OkN ⟨k, fs2 m j⟩ n) {e : Int} {D' : DM} (hb : BackR (armD ⟨k, fs2 m j⟩ 0 0 0) e D') :
    e = 0 ∧ ∃ k' m' n', D' = ⟨k', fs2 m' none⟩ ∧ UpD D' n' ∧ WasM p m' := by
  have hok2 : DM.OkN (armD ⟨k, fs2 m j⟩ 0 0 0) n := arm_okN hok (by decide) (by decide) (by decide)
  have hda : (armD ⟨k, fs2 m j⟩ 0 0 0) = ⟨{ k with at' := 0, kind := 0, more := 0 }, fs2 m j⟩ := rfl
  rw [hda] at hb hok2
  obtain ⟨k1, f1, f2, f3, f4⟩ := back_core hp hc hC (k := { k with at' := 0, kind := 0, more := 0 }) (n := n) ⟨hok2, hd, rfl⟩ hr
  have hfj : foundJ ⟨{ k with at' := 0, kind := 0, more := 0 }, fs2 m j⟩ = ((0, F.pages, F.sure, decide (0 < F.feet)), ⟨k1, fs2 m j⟩) := by
    unfold foundJ
    rw [f1, if_neg (by simp)]
  unfold BackR at hb
  rw [hfj] at hb
  dsimp only at hb
  rw [if_neg (by simp)] at hb
  by_cases hf : 0 < F.feet
  · rw [if_pos (decide_eq_true hf)] at hb
    obtain ⟨ks, _, hks, hb⟩ := hb
    obtain ⟨k2, m2, r1, r2, r3⟩ := f3 hf ks hks
    rw [r1] at hb
    dsimp only at hb
    rw [if_neg (by simp)] at hb
    obtain ⟨k3, g1, g2⟩ := gon2 r2
    rw [g1] at hb
    obtain ⟨rfl, rfl⟩ := Prod.mk.inj hb
    exact ⟨rfl, k3, m2, _, rfl, g2, r3⟩
  · rw [if_neg (by simpa using hf)] at hb
    obtain ⟨k3, g1, g2⟩ := gon2 f2
    rw [g1] at hb
    obtain ⟨rfl, rfl⟩ := Prod.mk.inj hb
    exact ⟨rfl, k3, m, _, rfl, g2, f4 hf⟩
end Go.Proofs.Ytncnfmpclgkogaa
