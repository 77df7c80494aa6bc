/- The journal as plain data, where nothing is amiss: what was noted and sealed is found. -/
import Derived.Test.YtncnfmpclgkogaaJrnPure
namespace Go.Proofs.Ytncnfmpclgkogaa
open Go.RowKit
set_option linter.unusedSimpArgs false
set_option linter.unusedVariables false
noncomputable def runAt (J : JM) (all : List Pg) (sure : Nat) : FM := ⟨if J.feet = 0 then 0 else J.pages, J.feet, J.salt, all.take sure, all.drop sure⟩
/-- A journal's file: none, or all of its sectors count. -/
def FileR (J : JM) (fs : Fs) (all : List Pg) (sure : Nat) : Prop :=
  (fs = [] ∧ all = [] ∧ J.feet = 0) ∨ ∃ x, fs = [(jnN, x)] ∧ x.now ≠ [] ∧ (x.now.length : Int) = all.length + J.feet ∧ runC x.now fm0 true = some (runAt J all sure)
structure JrR (J : JM) (D : DM) (all : List Pg) (sure c : Nat) (n : Int) : Prop where
  up : UpD D n
  pages : 0 ≤ J.pages ∧ J.pages ≤ 4096
  salt : U64 J.salt
  feet : 0 ≤ J.feet
  file : FileR J D.fs all sure
  noted : J.noted = all.map fun q => q.1
  loose : J.loose = (all.length - sure : Nat)
  sle : sure ≤ all.length
  zero : J.feet = 0 → sure = 0
  ins : ∀ q ∈ all, (0 ≤ q.1 ∧ q.1 < J.pages) ∧ q.2.size = 232
  few : (all.length : Int) + J.feet ≤ c
  room : 100 ≤ D.k.room
section
variable {J : JM} {D : DM} {all : List Pg} {sure c : Nat} {n : Int}
/-- One more sector. -/
theorem lay_step (up : UpD D n) (hr : 100 ≤ D.k.room) {l : Int} (hc : l < 100) {F F' : FM} (hf : (D.fs = [] ∧ F = fm0 ∧ l = 0) ∨ ∃ x, D.fs = [(jnN, x)] ∧ x.now ≠ [] ∧ (x.now.length : Int) = l ∧ runC x.now fm0 true = some F)
    {kind number salt : Int} {d : ByteArray} (h1 : closeE kind number d = 0) (h2 : (closeS kind number salt.toNat d).size = 256) (h3 : stepF F (closeS kind number salt.toNat d) (decide (D.fs = [])) = some F') :
    (layD salt D kind number d).1 = 0 ∧ UpD (layD salt D kind number d).2 (n + 1) ∧ (layD salt D kind number d).2.k.room = D.k.room ∧
    ∃ x, (layD salt D kind number d).2.fs = [(jnN, x)] ∧ x.now ≠ [] ∧ (x.now.length : Int) = l + 1 ∧ runC x.now fm0 true = some F' := by
  have hok := write_okN up.ok jnN (max (sizeD D jnN) 0) (closeS kind number salt.toNat d)
  unfold layD
  rw [if_pos h1]
  obtain ⟨k, fs⟩ := D
  rcases hf with ⟨hf, rfl, rfl⟩ | ⟨x, hf, hne, hlen, hrun⟩
  · dsimp only at hf hr
    subst hf
    have e : max (sizeD ⟨k, []⟩ jnN) 0 = 0 := rfl
    rw [e] at hok ⊢
    rw [write_new jn_good up.down up.at0 find_nil h2 (by decide) (by show ((0 : Nat) : Int) < k.room; omega)] at hok ⊢
    refine ⟨rfl, ⟨hok, up.down, up.at0⟩, rfl, _, rfl, by simp, by simp, ?_⟩
    rw [decide_eq_true (rfl : (⟨k, []⟩ : DM).fs = [])] at h3
    simp only [runC, h3]
  · dsimp only at hf hr
    subst hf
    have hfind : findF [(jnN, x)] jnN = some x := by rw [find_cons, if_pos rfl]
    have e : max (sizeD ⟨k, [(jnN, x)]⟩ jnN) 0 = (x.now.length : Nat) := by
      unfold sizeD
      dsimp only
      rw [hfind]
      dsimp only
      omega
    rw [e] at hok ⊢
    have ht : total [(jnN, x)] = x.now.length := by simp [total]
    rw [write_up (i := ((x.now.length : Nat) : Int)) jn_good up.down up.at0 hfind (Int.natCast_nonneg _) h2 (Int.le_refl _) (fun _ => by rw [ht]; show ((x.now.length : Nat) : Int) < k.room; omega)] at hok ⊢
    rw [Int.toNat_natCast] at hok ⊢
    have hput : putF [(jnN, x)] jnN (writeF x x.now.length (closeS kind number salt.toNat d)) = [(jnN, writeF x x.now.length (closeS kind number salt.toNat d))] := put_cons_eq
    have hw : (writeF x x.now.length (closeS kind number salt.toNat d)).now = x.now ++ [some (closeS kind number salt.toNat d)] := by
      unfold writeF
      rw [if_pos rfl]
    refine ⟨rfl, ⟨hok, up.down, up.at0⟩, rfl, _, hput, by rw [hw]; simp, by rw [hw, List.length_append, List.length_singleton]; omega, ?_⟩
    rw [hw, runC_app hrun]
    have hd : decide ((⟨k, [(jnN, x)]⟩ : DM).fs = []) = false := by simp
    rw [hd] at h3
    have he : (true && x.now.isEmpty) = false := by
      cases hh : x.now with
      | nil => exact absurd hh hne
      | cons _ _ => rfl
    rw [he]
    simp only [runC, h3]
theorem JrR.start {D : DM} (up : UpD D n) (hfs : D.fs = []) (hr : 100 ≤ D.k.room) {p s : Int} (hp : 0 ≤ p ∧ p ≤ 4096) (hs : U64 s) : JrR ⟨p, s, [], 0, 0⟩ D [] 0 0 n :=
  ⟨up, hp, hs, Int.le_refl _, .inl ⟨hfs, rfl, rfl⟩, rfl, rfl, Nat.le_refl _, fun _ => rfl, fun q hq => (by cases hq), Int.le_refl _, hr⟩
theorem FileR.run (h : FileR J D.fs all sure) : ∃ F : FM, ((D.fs = [] ∧ F = fm0 ∧ (all.length : Int) + J.feet = 0) ∨ ∃ x, D.fs = [(jnN, x)] ∧ x.now ≠ [] ∧ (x.now.length : Int) = all.length + J.feet ∧ runC x.now fm0 true = some F) ∧
    F.pages = (if J.feet = 0 then 0 else J.pages) ∧ F.feet = J.feet ∧ F.sure = all.take sure ∧ F.loose = all.drop sure ∧ (D.fs ≠ [] → F.salt = J.salt) := by
  rcases h with ⟨h1, rfl, h3⟩ | ⟨x, h1, h2, h3, h4⟩
  · exact ⟨fm0, .inl ⟨h1, rfl, by rw [h3]; rfl⟩, by rw [if_pos h3]; rfl, h3.symm, by simp [fm0], by simp [fm0], fun h => absurd h1 h⟩
  · exact ⟨_, .inr ⟨x, h1, h2, h3, h4⟩, rfl, rfl, rfl, rfl, fun _ => rfl⟩
theorem note_step (h : JrR J D all sure c n) (hc : c < 100) {q : Int} (hq : 0 ≤ q ∧ q < J.pages) {d : ByteArray} (hd : d.size = 232) :
    (noteJ J D q d).1 = 0 ∧ q ∈ (noteJ J D q d).2.1.noted ∧ (noteJ J D q d).2.1.pages = J.pages ∧
    (q ∈ J.noted → JrR (noteJ J D q d).2.1 (noteJ J D q d).2.2 all sure (c + 1) (n + 1)) ∧ (q ∉ J.noted → JrR (noteJ J D q d).2.1 (noteJ J D q d).2.2 (all ++ [(q, d)]) sure (c + 1) (n + 1)) := by
  have hno : ¬ (q < 0 ∨ J.pages ≤ q ∨ d.size ≠ 232) := by omega
  unfold noteJ
  rw [if_neg hno]
  by_cases hm : q ∈ J.noted
  · rw [if_pos hm]
    refine ⟨rfl, hm, rfl, fun _ => ⟨h.up.mono (by omega), h.pages, h.salt, h.feet, h.file, h.noted, h.loose, h.sle, h.zero, h.ins, by have := h.few; show (all.length : Int) + J.feet ≤ _; omega, h.room⟩, fun hh => absurd hm hh⟩
  · rw [if_neg hm]
    obtain ⟨F, hF, hp, hf, hsu, hlo, hsa⟩ := h.file.run
    have hb : decide (D.fs = []) = true ∨ J.salt = F.salt := by
      by_cases hh : D.fs = []
      · exact .inl (by rw [decide_eq_true hh])
      · exact .inr (hsa hh).symm
    obtain ⟨s1, s2, s3⟩ := step_rec (F := F) (n := q) (salt := J.salt) (d := d) ⟨hq.1, by have := h.pages.2; omega⟩ hd h.salt hb
    obtain ⟨l1, l2, l3, x, l4, l5, l6, l7⟩ := lay_step h.up h.room (by have := h.few; omega) hF s1 s2 s3
    rw [if_pos l1]
    refine ⟨rfl, by simp, rfl, fun hh => absurd hh hm, fun _ => ⟨l2, h.pages, h.salt, h.feet, .inr ⟨x, l4, l5, ?_, ?_⟩, ?_, ?_, ?_, h.zero, ?_, ?_, ?_⟩⟩
    · rw [l6, List.length_append, List.length_singleton]; show _ = _ + J.feet; omega
    · rw [l7]
      unfold runAt
      dsimp only
      rw [hp, hf, hsu, hlo, List.take_append_of_le_length h.sle, List.drop_append_of_le_length h.sle]
    · show J.noted ++ [q] = _
      rw [h.noted, List.map_append]; rfl
    · show J.loose + 1 = _
      have := h.sle
      rw [h.loose, List.length_append, List.length_singleton]; omega
    · have := h.sle; rw [List.length_append]; omega
    · intro r hr
      rcases List.mem_append.1 hr with hr | hr
      · exact h.ins r hr
      · rcases List.mem_singleton.1 hr with rfl
        exact ⟨hq, hd⟩
    · have := h.few; rw [List.length_append, List.length_singleton]; show _ + J.feet ≤ _; omega
    · dsimp only; rw [l3]; exact h.room
/-- Sync where a file is. -/
theorem sync_one {x : Fl} (up : UpD D n) (hf : D.fs = [(jnN, x)]) : (syncD D jnN).1 = 0 ∧ UpD (syncD D jnN).2 (n + 1) ∧ (syncD D jnN).2.k.room = D.k.room ∧ (syncD D jnN).2.fs = [(jnN, syncF x)] := by
  have hok := sync_okN up.ok jnN
  obtain ⟨k, fs⟩ := D
  dsimp only at hf
  subst hf
  have hfind : findF [(jnN, x)] jnN = some x := by rw [find_cons, if_pos rfl]
  rw [sync_up jn_good up.down up.at0 hfind] at hok ⊢
  exact ⟨rfl, ⟨hok, up.down, up.at0⟩, rfl, by show putF [(jnN, x)] jnN (syncF x) = _; exact put_one⟩
theorem seal_step (h : JrR J D all sure c n) (hc : c < 100) :
    (sealJ J D).1 = 0 ∧ 0 < (sealJ J D).2.1.feet ∧ (sealJ J D).2.1.pages = J.pages ∧ (sealJ J D).2.1.noted = J.noted ∧ JrR (sealJ J D).2.1 (sealJ J D).2.2 all all.length (c + 1) (n + 3) := by
  have hfe := h.feet
  have hlo0 : 0 ≤ J.loose := by rw [h.loose]; omega
  unfold sealJ
  by_cases hz : 0 < J.feet ∧ J.loose = 0
  · rw [if_pos hz]
    have hs : sure = all.length := by have h1 := hz.2; rw [h.loose] at h1; have := h.sle; omega
    subst hs
    exact ⟨rfl, hz.1, rfl, rfl, h.up.mono (by omega), h.pages, h.salt, h.feet, h.file, h.noted, by rw [hz.2]; simp, Nat.le_refl _, h.zero, h.ins, by have := h.few; show (all.length : Int) + J.feet ≤ _; omega, h.room⟩
  · rw [if_neg hz]
    obtain ⟨F, hF, hp, hf, hsu, hlo, hsa⟩ := h.file.run
    have hpre : (presyncJ J D).1 = 0 ∧ UpD (presyncJ J D).2 (n + 1) ∧ (presyncJ J D).2.k.room = D.k.room ∧
        (((presyncJ J D).2.fs = [] ∧ F = fm0 ∧ (all.length : Int) + J.feet = 0) ∨ ∃ x, (presyncJ J D).2.fs = [(jnN, x)] ∧ x.now ≠ [] ∧ (x.now.length : Int) = all.length + J.feet ∧ runC x.now fm0 true = some F) ∧ ((presyncJ J D).2.fs = [] ↔ D.fs = []) := by
      unfold presyncJ
      split
      · rename_i hl
        rcases hF with ⟨h1, h2, _⟩ | ⟨x, h1, h2, h3, h4⟩
        · exfalso
          rcases h.file with ⟨_, h5, _⟩ | ⟨x, h5, _⟩
          · rw [h.loose, h5] at hl; simp at hl
          · rw [h1] at h5; cases h5
        · obtain ⟨s1, s2, s3, s4⟩ := sync_one h.up h1
          exact ⟨s1, s2, s3, .inr ⟨syncF x, s4, h2, h3, h4⟩, by rw [s4, h1]; simp⟩
      · exact ⟨rfl, h.up.mono (by omega), rfl, hF, Iff.rfl⟩
    obtain ⟨p1, p2, p3, p4, p5⟩ := hpre
    dsimp only
    rw [if_neg (by rw [p1]; simp)]
    have hb : decide ((presyncJ J D).2.fs = []) = true ∨ J.salt = F.salt := by
      by_cases hh : D.fs = []
      · exact .inl (by rw [decide_eq_true (p5.2 hh)])
      · exact .inr (hsa hh).symm
    have hlen : F.loose.length = all.length - sure := by rw [hlo, List.length_drop]
    have hlz : J.loose = (F.loose.length : Nat) := by rw [h.loose, hlen]
    have hfew := h.few
    obtain ⟨s1, s2, s3⟩ := step_foot (F := F) (p := J.pages) (salt := J.salt) h.pages (by
      rw [hf, hp]
      by_cases h0 : J.feet = 0
      · exact .inl h0
      · rw [if_neg h0]; exact .inr rfl) (by omega) h.salt hb (fun q hq => by rw [hlo] at hq; exact (h.ins q (List.mem_of_mem_drop hq)).1.2)
    rw [← hlz, hf] at s1 s2 s3
    obtain ⟨l1, l2, l3, x, l4, l5, l6, l7⟩ := lay_step p2 (by rw [p3]; exact h.room) (by omega) p4 s1 s2 s3
    rw [if_neg (by rw [l1]; simp)]
    obtain ⟨t1, t2, t3, t4⟩ := sync_one l2 l4
    rw [if_neg (by rw [t1]; simp)]
    refine ⟨rfl, by show 0 < J.feet + 1; omega, rfl, rfl, t2.mono (by omega), h.pages, h.salt, by show 0 ≤ J.feet + 1; omega, .inr ⟨syncF x, t4, l5, by show (x.now.length : Int) = all.length + (J.feet + 1); omega, ?_⟩, h.noted, by simp, Nat.le_refl _, fun h0 => by exfalso; have : J.feet + 1 = 0 := h0; omega, h.ins, by show (all.length : Int) + (J.feet + 1) ≤ _; omega, by rw [t3, l3, p3]; exact h.room⟩
    show runC x.now fm0 true = _
    rw [l7]
    unfold runAt
    dsimp only
    rw [if_neg (by omega), hsu, hlo, List.take_append_drop, List.take_length, List.drop_length]
theorem find_step (h : JrR J D all sure c n) : ∃ F : FM, (findJ D).1 = (0, F) ∧ (findJ D).2.fs = D.fs ∧ UpD (findJ D).2 (n + c) ∧ F.pages = (if J.feet = 0 then 0 else J.pages) ∧ F.feet = J.feet ∧ F.sure = all.take sure := by
  obtain ⟨F, hF, hp, hf, hsu, hlo, hsa⟩ := h.file.run
  refine ⟨F, ?_⟩
  unfold findJ
  rcases hF with ⟨h1, h2, _⟩ | ⟨x, h1, h2, h3, h4⟩
  · have e : (max (sizeD D jnN) 0).toNat = 0 := by unfold sizeD; rw [h1]; rfl
    rw [e, h2]
    rw [h2] at hp hf hsu
    exact ⟨rfl, rfl, h.up.mono (by omega), hp, hf, hsu⟩
  · have hfind : findF D.fs jnN = some x := by rw [h1, find_cons, if_pos rfl]
    have e : (max (sizeD D jnN) 0).toNat = x.now.length := by unfold sizeD; rw [hfind]; dsimp only; omega
    rw [e]
    obtain ⟨r1, r2, r3⟩ := find_run x.now.length 0 (F := fm0) (F' := F) h.up hfind (by omega) (by rw [List.drop_zero]; exact h4)
    exact ⟨r1, r2, r3.mono (by have := h.few; omega), hp, hf, hsu⟩
theorem JrR.size (h : JrR J D all sure c n) : sizeD D jnN = if D.fs = [] then -1 else (all.length : Int) + J.feet := by
  rcases h.file with ⟨h1, h2, h3⟩ | ⟨x, h1, h2, h3, h4⟩
  · rw [if_pos h1]; unfold sizeD; rw [h1]; rfl
  · rw [if_neg (by rw [h1]; simp)]
    unfold sizeD
    rw [h1, find_cons, if_pos rfl]
    exact h3
end
end Go.Proofs.Ytncnfmpclgkogaa
