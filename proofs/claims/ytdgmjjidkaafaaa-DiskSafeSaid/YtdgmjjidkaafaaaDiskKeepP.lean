/- The disk's laws: what is kept, what is lost. No program in sight. -/
import Derived.Test.YtdgmjjidkaafaaaDiskActs
namespace Go.Proofs.Ytdgmjjidkaafaaa
open Go.RowKit
set_option linter.unusedSimpArgs false
set_option linter.unusedVariables false
/-- What waits not is safe as it is. -/
def KeepL : List Cv → List (Option Cv) → List Bool → Prop
  | [], [], [] => True
  | n :: ns, s :: ss, w :: ws => (w = false → s = some n) ∧ KeepL ns ss ws
  | _, _, _ => False
theorem KeepL.nil : KeepL [] [] [] := trivial
theorem KeepL.app : ∀ {ns : List Cv} {ss : List (Option Cv)} {ws : List Bool} (n : Cv) (s : Option Cv), KeepL ns ss ws → KeepL (ns ++ [n]) (ss ++ [s]) (ws ++ [true])
  | [], [], [], _, _, _ => ⟨fun h => (by cases h), trivial⟩
  | _ :: _, _ :: _, _ :: _, n, s, h => ⟨h.1, KeepL.app n s h.2⟩
theorem KeepL.set : ∀ {ns : List Cv} {ss : List (Option Cv)} {ws : List Bool} (i : Nat) (n : Cv), KeepL ns ss ws → KeepL (ns.set i n) ss (ws.set i true)
  | [], [], [], _, _, _ => trivial
  | _ :: _, _ :: _, _ :: _, 0, n, h => ⟨fun h => (by cases h), h.2⟩
  | _ :: _, _ :: _, _ :: _, i + 1, n, h => ⟨h.1, KeepL.set i n h.2⟩
theorem KeepL.take : ∀ {ns : List Cv} {ss : List (Option Cv)} {ws : List Bool} (k : Nat), KeepL ns ss ws → KeepL (ns.take k) (ss.take k) (ws.take k)
  | [], [], [], _, _ => by simp [KeepL]
  | _ :: _, _ :: _, _ :: _, 0, _ => trivial
  | _ :: _, _ :: _, _ :: _, k + 1, h => ⟨h.1, KeepL.take k h.2⟩
theorem KeepL.all : ∀ (ns : List Cv), KeepL ns (ns.map some) (List.replicate ns.length false)
  | [] => trivial
  | _ :: ns => ⟨fun _ => rfl, KeepL.all ns⟩
structure Fl.Set (x : Fl) : Prop where
  keep : KeepL x.now x.safe x.wait
  sure : x.now = [] → x.sure = true
def DM.Set (D : DM) : Prop := ∀ p ∈ D.fs, p.2.Set
theorem fl0_keep : KeepL fl0.now fl0.safe fl0.wait := trivial
theorem get_keep {fs : Fs} (h : ∀ p ∈ fs, p.2.Set) (s : ByteArray) : KeepL ((findF fs s).getD fl0).now ((findF fs s).getD fl0).safe ((findF fs s).getD fl0).wait := by
  cases hx : findF fs s with
  | none => exact trivial
  | some x => exact (h _ (find_mem hx)).keep
theorem put_set' {fs : Fs} (h : ∀ p ∈ fs, p.2.Set) {s : ByteArray} {x : Fl} (hx : x.Set) : ∀ p ∈ putF fs s x, p.2.Set := fun p hp => by
  rcases put_mem hp with rfl | hp
  · exact hx
  · exact h p hp
theorem write_set {x : Fl} (h : KeepL x.now x.safe x.wait) {i : Nat} (hi : i ≤ x.now.length) (d : ByteArray) : (writeF x i d).Set := by
  unfold writeF
  split
  · exact ⟨h.app _ _, fun e => (by simp at e)⟩
  · rename_i hne
    refine ⟨h.set i _, fun e => ?_⟩
    have := congrArg List.length e
    rw [List.length_set] at this
    simp only [List.length_nil] at this
    omega
theorem sync_set (x : Fl) : (syncF x).Set := ⟨KeepL.all _, fun _ => rfl⟩
theorem cut_set {x : Fl} (h : KeepL x.now x.safe x.wait) (n : Nat) : (cutF x n).Set := ⟨h.take n, fun _ => rfl⟩
theorem onX_set (l : List Int) (X : Fl) (u : Nat) : ({ (fatedF l X u).1 with sure := true } : Fl).Set := ⟨KeepL.all _, fun _ => rfl⟩
theorem onF_set (l : List Int) : ∀ (fs : Fs) (u : Nat), ∀ p ∈ onF l fs u, p.2.Set
  | [], _, p, hp => by cases hp
  | (s, X) :: r, u, p, hp => by
    have e : onF l ((s, X) :: r) u = if (fatedF l X u).1.now = [] ∧ X.sure = false then onF l r (fatedF l X u).2 else (s, { (fatedF l X u).1 with sure := true }) :: onF l r (fatedF l X u).2 := rfl
    rw [e] at hp
    split at hp
    · exact onF_set l r _ p hp
    · rcases List.mem_cons.1 hp with rfl | hp
      · exact onX_set l X u
      · exact onF_set l r _ p hp
section
variable {D : DM} (h : D.Set)
include h
theorem writeD_set (s : ByteArray) (i : Int) (d : ByteArray) : (writeD D s i d).2.Set := by
  unfold writeD
  dsimp only
  split
  · exact h
  · split
    · exact h
    · split
      · exact h
      · exact put_set' h (write_set (get_keep h s) (by omega) d)
theorem syncD_set (s : ByteArray) : (syncD D s).2.Set := by
  unfold syncD
  dsimp only
  split
  · exact h
  · exact put_set' h (sync_set _)
theorem cutD_set (s : ByteArray) (n : Int) : (cutD D s n).2.Set := by
  unfold cutD
  dsimp only
  split
  · exact h
  · split
    · exact h
    · exact put_set' h (cut_set (get_keep h s) _)
theorem dropD_set (s : ByteArray) : (dropD D s).2.Set := by
  unfold dropD
  dsimp only
  split
  · exact h
  · exact fun p hp => h p (List.mem_filter.1 hp).1
theorem onD_set (l : List Int) : (onD D l).Set := by
  unfold onD
  split
  · exact onF_set l _ _
  · exact h
theorem loadD_set (s d : ByteArray) : (loadD D s d).2.Set := by
  unfold loadD
  split
  · exact h
  · split
    · exact h
    · exact put_set' h ⟨KeepL.all _, fun _ => rfl⟩
theorem doesD_set (y : ActT) : (doesD y D).2.Set := by
  unfold doesD
  split
  · exact h
  split
  · exact writeD_set h _ _ _
  split
  · exact syncD_set h _
  split
  · exact cutD_set h _ _
  split
  · exact dropD_set h _
  split
  · exact h
  split
  · exact h
  split
  · exact h
  split
  · exact onD_set h _
  split
  · exact loadD_set h _ _
  · exact h
end
theorem newD_set (a : Int) : (newD a).Set := fun p hp => by cases hp
/-! All kept. -/
theorem fates_kept (u : Nat) : ∀ {ns : List Cv} {ss : List (Option Cv)} {ws : List Bool} {u : Nat}, KeepL ns ss ws → (fates [1] ns ss ws u).1 = ns.map some
  | [], [], [], u, _ => rfl
  | n :: ns, s :: ss, true :: ws, u, h => by
    have e : fateAt [1] u = 1 := by unfold fateAt; rw [if_neg (by simp)]; simp [Nat.mod_one]
    simp only [fates, e, fates_kept u h.2, List.map_cons]
    rfl
  | n :: ns, s :: ss, false :: ws, u, h => by
    simp only [fates, fates_kept u h.2, List.map_cons, h.1 rfl]
theorem trim_some : ∀ (l : List Cv), trimC (l.map some) = l.map some
  | [] => rfl
  | c :: l => by
    show trimC (some c :: l.map some) = some c :: l.map some
    unfold trimC
    rw [trim_some l]
    cases l.map some <;> rfl
theorem trim_none : ∀ (l : List Cv) (k : Nat), trimC (l.map some ++ List.replicate k none) = l.map some
  | [], 0 => rfl
  | [], k + 1 => by
    show trimC (none :: List.replicate k none) = []
    unfold trimC
    have := trim_none [] k
    rw [List.map_nil, List.nil_append] at this
    rw [this]
  | c :: l, k => by
    show trimC (some c :: (l.map some ++ List.replicate k none)) = some c :: l.map some
    unfold trimC
    rw [trim_none l k]
    cases l.map some <;> rfl
theorem fill_some (l : List Cv) : (l.map some).map fillC = l := by
  rw [List.map_map]
  exact List.map_id' l
/-- A file, all of it safe. -/
def setl (x : Fl) : Fl := ⟨x.now, x.now.map some, List.replicate x.now.length false, true⟩
theorem on_kept : ∀ (fs : Fs) (u : Nat), (∀ p ∈ fs, p.2.Set) → onF [1] fs u = fs.map fun p => (p.1, setl p.2)
  | [], _, _ => rfl
  | (s, X) :: r, u, h => by
    have hX : X.Set := h (s, X) List.mem_cons_self
    have e : onF [1] ((s, X) :: r) u = if (fatedF [1] X u).1.now = [] ∧ X.sure = false then onF [1] r (fatedF [1] X u).2 else (s, { (fatedF [1] X u).1 with sure := true }) :: onF [1] r (fatedF [1] X u).2 := rfl
    have e2 : (fatedF [1] X u).1 = ⟨X.now, X.now.map some, List.replicate X.now.length false, X.sure⟩ := by
      unfold fatedF
      dsimp only
      rw [fates_kept u hX.keep, trim_some, fill_some]
    rw [e, e2, if_neg (fun hh => by have := hX.sure hh.1; rw [hh.2] at this; cases this), on_kept r _ fun p hp => h p (List.mem_cons_of_mem _ hp)]
    rfl
/-! All lost. -/
theorem fates_lost : ∀ (ns : List Cv) (ss : List (Option Cv)) (ws : List Bool) (u : Nat), (fates [] ns ss ws u).1 = ss
  | [], _, _, _ => by simp [fates]
  | _ :: _, [], _, _ => by simp [fates]
  | _ :: _, _ :: _, [], _ => by simp [fates]
  | n :: ns, s :: ss, true :: ws, u => by
    have e : fateAt [] u = 0 := by unfold fateAt; rw [if_pos rfl]
    simp only [fates, e, fates_lost ns ss ws (u + 1)]
    rfl
  | n :: ns, s :: ss, false :: ws, u => by simp only [fates, fates_lost ns ss ws u]
/-- A file as it was safe, and what came behind it. -/
def LostR (p b : ByteArray × Fl) : Prop := p.1 = b.1 ∧ p.2.sure = true ∧ ∃ k, p.2.safe = b.2.now.map some ++ List.replicate k none
theorem on_lost : ∀ {fs B : Fs} (u : Nat), All2 LostR fs B → onF [] fs u = B.map fun p => (p.1, setl p.2)
  | [], [], _, _ => rfl
  | (s, X) :: r, (t, Y) :: B, u, h => by
    obtain ⟨⟨h1, h2, k, h3⟩, h4⟩ := h
    dsimp only at h1 h2 h3
    have e : onF [] ((s, X) :: r) u = if (fatedF [] X u).1.now = [] ∧ X.sure = false then onF [] r (fatedF [] X u).2 else (s, { (fatedF [] X u).1 with sure := true }) :: onF [] r (fatedF [] X u).2 := rfl
    have e2 : (fatedF [] X u).1 = ⟨Y.now, Y.now.map some, List.replicate Y.now.length false, X.sure⟩ := by
      unfold fatedF
      dsimp only
      rw [fates_lost, h3, trim_none, fill_some]
    rw [e, e2, if_neg (fun hh => by rw [h2] at hh; cases hh.2), on_lost _ h4, h1]
    rfl
theorem find_map {g : Fl → Fl} {s : ByteArray} : ∀ (fs : Fs), findF (fs.map fun p => (p.1, g p.2)) s = (findF fs s).map g
  | [] => rfl
  | (t, y) :: r => by
    rw [List.map_cons, find_cons, find_cons, find_map r]
    split <;> rfl
theorem bytes_map {k k' : Dk} {fs : Fs} {g : Fl → Fl} (hg : ∀ x, (g x).now = x.now) (s : ByteArray) : bytesD ⟨k, fs.map fun p => (p.1, g p.2)⟩ s = bytesD ⟨k', fs⟩ s := by
  unfold bytesD
  dsimp only
  rw [find_map]
  cases findF fs s with
  | none => rfl
  | some x => simp only [Option.map_some, Option.getD_some, hg]
theorem nm_map {fs : Fs} {g : Fl → Fl} : (fs.map fun p => (p.1, g p.2)).map (fun p => p.1) = fs.map fun p => p.1 := by rw [List.map_map]; rfl
/-! A write touches its file alone. -/
theorem put_names {s : ByteArray} {x : Fl} : ∀ {fs : Fs}, Sorted fs → (∃ y, findF fs s = some y) → (putF fs s x).map (fun p => p.1) = fs.map fun p => p.1 := by
  intro fs hs ⟨y, hy⟩
  obtain ⟨a, b, rfl⟩ := List.append_of_mem (find_mem hy)
  rw [put_mid hs]
  simp
theorem put_all2 {s : ByteArray} {x y : Fl} {fs B : Fs} (hs : Sorted fs) (hy : findF fs s = some y) (h : All2 LostR fs B) (hx : ∀ b, LostR (s, y) b → LostR (s, x) b) : All2 LostR (putF fs s x) B := by
  obtain ⟨a, b, rfl⟩ := List.append_of_mem (find_mem hy)
  rw [put_mid hs]
  clear hs hy
  induction a generalizing B with
  | nil =>
    cases B with
    | nil => exact h.elim
    | cons c B => exact ⟨hx c h.1, h.2⟩
  | cons p a ih =>
    cases B with
    | nil => exact h.elim
    | cons c B => exact ⟨h.1, ih h.2⟩
theorem writeF_lost {x : Fl} {s : ByteArray} {i : Nat} {d : ByteArray} (b : ByteArray × Fl) (h : LostR (s, x) b) : LostR (s, writeF x i d) b := by
  obtain ⟨h1, h2, k, h3⟩ := h
  dsimp only at h1 h2 h3
  unfold writeF
  split
  · exact ⟨h1, h2, k + 1, by show x.safe ++ [none] = _; rw [h3, List.append_assoc, List.replicate_succ']⟩
  · exact ⟨h1, h2, k, h3⟩
theorem writeD_cases (D : DM) (s : ByteArray) (i : Int) (d : ByteArray) {x : Fl} (hx : findF D.fs s = some x) : (writeD D s i d).2.fs = D.fs ∨ (∃ j, (writeD D s i d).2.fs = putF D.fs s (writeF x j d)) := by
  unfold writeD
  dsimp only
  rw [hx]
  split
  · exact .inl rfl
  · split
    · exact .inl rfl
    · split
      · exact .inl rfl
      · exact .inr ⟨i.toNat, rfl⟩
theorem writeD_lost {D : DM} {B : Fs} (hs : Sorted D.fs) (h : All2 LostR D.fs B) {s : ByteArray} {i : Int} {d : ByteArray} {x : Fl} (hx : findF D.fs s = some x) : All2 LostR (writeD D s i d).2.fs B := by
  rcases writeD_cases D s i d hx with e | ⟨j, e⟩
  · rw [e]; exact h
  · rw [e]; exact put_all2 hs hx h fun b hb => writeF_lost b hb
theorem writeD_names {D : DM} (hs : Sorted D.fs) {s : ByteArray} {i : Int} {d : ByteArray} {x : Fl} (hx : findF D.fs s = some x) : (writeD D s i d).2.fs.map (fun p => p.1) = D.fs.map fun p => p.1 := by
  rcases writeD_cases D s i d hx with e | ⟨j, e⟩
  · rw [e]
  · rw [e]; exact put_names hs ⟨x, hx⟩
theorem writeD_other {D : DM} (hs : Sorted D.fs) {s t : ByteArray} {i : Int} {d : ByteArray} {x : Fl} (hx : findF D.fs s = some x) (hne : t ≠ s) : bytesD (writeD D s i d).2 t = bytesD D t := by
  unfold bytesD
  rcases writeD_cases D s i d hx with e | ⟨j, e⟩
  · rw [e]
  · rw [e, find_put hs, if_neg hne]
theorem setl_lost (B : Fs) : All2 LostR (B.map fun p => (p.1, setl p.2)) B := by
  induction B with
  | nil => trivial
  | cons p B ih => exact ⟨⟨rfl, rfl, 0, by simp [setl]⟩, ih⟩
theorem mem_find_name {fs : Fs} {s : ByteArray} (h : s ∈ fs.map fun p => p.1) : ∃ x, findF fs s = some x := by
  cases hx : findF fs s with
  | some x => exact ⟨x, rfl⟩
  | none =>
    obtain ⟨p, hp, e⟩ := List.mem_map.1 h
    exact absurd e (none_find hx p hp)
/-! What is refused. -/
theorem beg_armed {k : Dk} (h1 : k.down = false) (h2 : k.at' = 1) (h3 : k.kind = 1 ∨ k.kind = 2) (h4 : k.more = 0) (s : ByteArray) (r : Bool) :
    ((begS k s r) = (1, k)) ∨ ((begS k s r).1 = 10 ∧ k.kind = 2 ∧ (begS k s r).2.down = true ∧ (begS k s r).2.ops = k.ops + 1) ∨ ((begS k s r).1 = 11 ∧ (begS k s r).2.ops = k.ops + 1) := by
  unfold begS
  split
  · exact .inl rfl
  · rw [if_neg (by rw [h1]; decide), if_neg (by omega), if_neg (by omega)]
    split
    · rename_i h; exact .inr (.inl ⟨rfl, h, rfl, rfl⟩)
    · rw [if_neg (by omega)]
      exact .inr (.inr ⟨rfl, rfl⟩)
structure Refd (D D' : DM) (e : Int) : Prop where
  fs : D'.fs = D.fs
  ne : e ≠ 0
  io : e = 11 → D'.k.ops = D.k.ops + 1
  dn : e = 10 → D.k.kind = 2 ∧ D'.k.down = true
theorem found_armed {D : DM} (h1 : D.k.down = false) (h2 : D.k.at' = 1) (h3 : D.k.kind = 1 ∨ D.k.kind = 2) (h4 : D.k.more = 0) (s : ByteArray) (r : Bool) :
    Refd D (foundD D s r).2 (foundD D s r).1 ∧ (foundD D s r).1 ≠ 14 := by
  unfold foundD
  dsimp only
  rcases beg_armed h1 h2 h3 h4 s r with h | ⟨ha, hb, hc, hd⟩ | ⟨ha, hd⟩
  · rw [h]
    exact ⟨⟨rfl, by simp, fun h => (by simp at h), fun h => (by simp at h)⟩, by simp⟩
  · rw [if_pos (by rw [ha]; decide), ha]
    exact ⟨⟨rfl, by decide, fun h => (by cases h), fun _ => ⟨hb, hc⟩⟩, by decide⟩
  · rw [if_pos (by rw [ha]; decide), ha]
    exact ⟨⟨rfl, by decide, fun _ => hd, fun h => (by cases h)⟩, by decide⟩
theorem does_refused {D : DM} (h1 : D.k.down = false) (h2 : D.k.at' = 1) (h3 : D.k.kind = 1 ∨ D.k.kind = 2) (h4 : D.k.more = 0) {y : ActT} (hk : 1 ≤ y.1 ∧ y.1 ≤ 5) : Refd D (doesD y D).2 (doesD y D).1.2 := by
  have F := fun s r => found_armed h1 h2 h3 h4 s r
  have h5 : y.1 = 1 ∨ y.1 = 2 ∨ y.1 = 3 ∨ y.1 = 4 ∨ y.1 = 5 := by omega
  obtain ⟨d1, d2, d3, d4, d5, _⟩ := doesD_is y D y.1 rfl
  rcases h5 with h | h | h | h | h
  · rw [d1 h]
    obtain ⟨a, _⟩ := F y.2.1 true
    unfold readD
    dsimp only
    rw [if_pos a.ne]
    exact a
  · rw [d2 h]
    obtain ⟨a, b⟩ := F y.2.1 (decide (0 ≤ y.2.2.1) && decide ((pgS (dlen y.2.2.2.2.1) y.2.2.2.1).size = 256))
    unfold writeD
    dsimp only
    rw [if_pos ⟨a.ne, .inl b⟩]
    exact a
  · rw [d3 h]
    obtain ⟨a, _⟩ := F y.2.1 true
    unfold syncD
    dsimp only
    rw [if_pos a.ne]
    exact a
  · rw [d4 h]
    obtain ⟨a, _⟩ := F y.2.1 (decide (0 ≤ y.2.2.1))
    unfold cutD
    dsimp only
    rw [if_pos a.ne]
    exact a
  · rw [d5 h]
    obtain ⟨a, _⟩ := F y.2.1 true
    unfold dropD
    dsimp only
    rw [if_pos a.ne]
    exact a
end Go.Proofs.Ytdgmjjidkaafaaa
