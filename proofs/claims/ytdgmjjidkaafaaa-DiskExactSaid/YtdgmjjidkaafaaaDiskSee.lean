/- The disk's laws: plain facts; a disk behind acts; the acts as they came in. -/
import Derived.Test.YtdgmjjidkaafaaaDiskActs
import Derived.OpenShut
namespace Go.Proofs.Ytdgmjjidkaafaaa
open Go.RowKit
set_option linter.unusedSimpArgs false
set_option linter.unusedVariables false
/-- What waits not is safe as it is. -/
def KeepL : List Cv → List (Option Cv) → List Bool → Prop
  | [], [], [] => True
  | n :: ns, s :: ss, w :: ws => (w = false → s = some n) ∧ KeepL ns ss ws
  | _, _, _ => False
theorem KeepL.nil : KeepL [] [] [] := trivial
theorem KeepL.app : ∀ {ns : List Cv} {ss : List (Option Cv)} {ws : List Bool} (n : Cv) (s : Option Cv), KeepL ns ss ws → KeepL (ns ++ [n]) (ss ++ [s]) (ws ++ [true])
  | [], [], [], _, _, _ => ⟨fun h => (by cases h), trivial⟩
  | _ :: _, _ :: _, _ :: _, n, s, h => ⟨h.1, KeepL.app n s h.2⟩
theorem KeepL.set : ∀ {ns : List Cv} {ss : List (Option Cv)} {ws : List Bool} (i : Nat) (n : Cv), KeepL ns ss ws → KeepL (ns.set i n) ss (ws.set i true)
  | [], [], [], _, _, _ => trivial
  | _ :: _, _ :: _, _ :: _, 0, n, h => ⟨fun h => (by cases h), h.2⟩
  | _ :: _, _ :: _, _ :: _, i + 1, n, h => ⟨h.1, KeepL.set i n h.2⟩
theorem KeepL.take : ∀ {ns : List Cv} {ss : List (Option Cv)} {ws : List Bool} (k : Nat), KeepL ns ss ws → KeepL (ns.take k) (ss.take k) (ws.take k)
  | [], [], [], _, _ => by simp [KeepL]
  | _ :: _, _ :: _, _ :: _, 0, _ => trivial
  | _ :: _, _ :: _, _ :: _, k + 1, h => ⟨h.1, KeepL.take k h.2⟩
theorem KeepL.all : ∀ (ns : List Cv), KeepL ns (ns.map some) (List.replicate ns.length false)
  | [] => trivial
  | _ :: ns => ⟨fun _ => rfl, KeepL.all ns⟩
structure Fl.Set (x : Fl) : Prop where
  keep : KeepL x.now x.safe x.wait
  sure : x.now = [] → x.sure = true
def DM.Set (D : DM) : Prop := ∀ p ∈ D.fs, p.2.Set
theorem fl0_keep : KeepL fl0.now fl0.safe fl0.wait := trivial
theorem get_keep {fs : Fs} (h : ∀ p ∈ fs, p.2.Set) (s : ByteArray) : KeepL ((findF fs s).getD fl0).now ((findF fs s).getD fl0).safe ((findF fs s).getD fl0).wait := by
  cases hx : findF fs s with
  | none => exact trivial
  | some x => exact (h _ (find_mem hx)).keep
theorem put_set' {fs : Fs} (h : ∀ p ∈ fs, p.2.Set) {s : ByteArray} {x : Fl} (hx : x.Set) : ∀ p ∈ putF fs s x, p.2.Set := fun p hp => by
  rcases put_mem hp with rfl | hp
  · exact hx
  · exact h p hp
theorem write_set {x : Fl} (h : KeepL x.now x.safe x.wait) {i : Nat} (hi : i ≤ x.now.length) (d : ByteArray) : (writeF x i d).Set := by
  unfold writeF
  split
  · exact ⟨h.app _ _, fun e => (by simp at e)⟩
  · rename_i hne
    refine ⟨h.set i _, fun e => ?_⟩
    have := congrArg List.length e
    rw [List.length_set] at this
    simp only [List.length_nil] at this
    omega
theorem sync_set (x : Fl) : (syncF x).Set := ⟨KeepL.all _, fun _ => rfl⟩
theorem cut_set {x : Fl} (h : KeepL x.now x.safe x.wait) (n : Nat) : (cutF x n).Set := ⟨h.take n, fun _ => rfl⟩
theorem onX_set (l : List Int) (X : Fl) (u : Nat) : ({ (fatedF l X u).1 with sure := true } : Fl).Set := ⟨KeepL.all _, fun _ => rfl⟩
theorem onF_set (l : List Int) : ∀ (fs : Fs) (u : Nat), ∀ p ∈ onF l fs u, p.2.Set
  | [], _, p, hp => by cases hp
  | (s, X) :: r, u, p, hp => by
    have e : onF l ((s, X) :: r) u = if (fatedF l X u).1.now = [] ∧ X.sure = false then onF l r (fatedF l X u).2 else (s, { (fatedF l X u).1 with sure := true }) :: onF l r (fatedF l X u).2 := rfl
    rw [e] at hp
    split at hp
    · exact onF_set l r _ p hp
    · rcases List.mem_cons.1 hp with rfl | hp
      · exact onX_set l X u
      · exact onF_set l r _ p hp
section
variable {D : DM} (h : D.Set)
include h
theorem writeD_set (s : ByteArray) (i : Int) (d : ByteArray) : (writeD D s i d).2.Set := by
  unfold writeD
  dsimp only
  split
  · exact h
  · split
    · exact h
    · split
      · exact h
      · exact put_set' h (write_set (get_keep h s) (by omega) d)
theorem syncD_set (s : ByteArray) : (syncD D s).2.Set := by
  unfold syncD
  dsimp only
  split
  · exact h
  · exact put_set' h (sync_set _)
theorem cutD_set (s : ByteArray) (n : Int) : (cutD D s n).2.Set := by
  unfold cutD
  dsimp only
  split
  · exact h
  · split
    · exact h
    · exact put_set' h (cut_set (get_keep h s) _)
theorem dropD_set (s : ByteArray) : (dropD D s).2.Set := by
  unfold dropD
  dsimp only
  split
  · exact h
  · exact fun p hp => h p (List.mem_filter.1 hp).1
theorem onD_set (l : List Int) : (onD D l).Set := by
  unfold onD
  split
  · exact onF_set l _ _
  · exact h
theorem loadD_set (s d : ByteArray) : (loadD D s d).2.Set := by
  unfold loadD
  split
  · exact h
  · split
    · exact h
    · exact put_set' h ⟨KeepL.all _, fun _ => rfl⟩
theorem doesD_set (y : ActT) : (doesD y D).2.Set := by
  unfold doesD
  split
  · exact h
  split
  · exact writeD_set h _ _ _
  split
  · exact syncD_set h _
  split
  · exact cutD_set h _ _
  split
  · exact dropD_set h _
  split
  · exact h
  split
  · exact h
  split
  · exact h
  split
  · exact onD_set h _
  split
  · exact loadD_set h _ _
  · exact h
end
theorem newD_set (a : Int) : (newD a).Set := fun p hp => by cases hp
/-! All kept. -/
theorem fates_kept (u : Nat) : ∀ {ns : List Cv} {ss : List (Option Cv)} {ws : List Bool} {u : Nat}, KeepL ns ss ws → (fates [1] ns ss ws u).1 = ns.map some
  | [], [], [], u, _ => rfl
  | n :: ns, s :: ss, true :: ws, u, h => by
    have e : fateAt [1] u = 1 := by unfold fateAt; rw [if_neg (by simp)]; simp [Nat.mod_one]
    simp only [fates, e, fates_kept u h.2, List.map_cons]
    rfl
  | n :: ns, s :: ss, false :: ws, u, h => by
    simp only [fates, fates_kept u h.2, List.map_cons, h.1 rfl]
theorem trim_some : ∀ (l : List Cv), trimC (l.map some) = l.map some
  | [] => rfl
  | c :: l => by
    show trimC (some c :: l.map some) = some c :: l.map some
    unfold trimC
    rw [trim_some l]
    cases l.map some <;> rfl
theorem trim_none : ∀ (l : List Cv) (k : Nat), trimC (l.map some ++ List.replicate k none) = l.map some
  | [], 0 => rfl
  | [], k + 1 => by
    show trimC (none :: List.replicate k none) = []
    unfold trimC
    have := trim_none [] k
    rw [List.map_nil, List.nil_append] at this
    rw [this]
  | c :: l, k => by
    show trimC (some c :: (l.map some ++ List.replicate k none)) = some c :: l.map some
    unfold trimC
    rw [trim_none l k]
    cases l.map some <;> rfl
theorem fill_some (l : List Cv) : (l.map some).map fillC = l := by
  rw [List.map_map]
  exact List.map_id' l
/-- A file, all of it safe. -/
def setl (x : Fl) : Fl := ⟨x.now, x.now.map some, List.replicate x.now.length false, true⟩
theorem on_kept : ∀ (fs : Fs) (u : Nat), (∀ p ∈ fs, p.2.Set) → onF [1] fs u = fs.map fun p => (p.1, setl p.2)
  | [], _, _ => rfl
  | (s, X) :: r, u, h => by
    have hX : X.Set := h (s, X) List.mem_cons_self
    have e : onF [1] ((s, X) :: r) u = if (fatedF [1] X u).1.now = [] ∧ X.sure = false then onF [1] r (fatedF [1] X u).2 else (s, { (fatedF [1] X u).1 with sure := true }) :: onF [1] r (fatedF [1] X u).2 := rfl
    have e2 : (fatedF [1] X u).1 = ⟨X.now, X.now.map some, List.replicate X.now.length false, X.sure⟩ := by
      unfold fatedF
      dsimp only
      rw [fates_kept u hX.keep, trim_some, fill_some]
    rw [e, e2, if_neg (fun hh => by have := hX.sure hh.1; rw [hh.2] at this; cases this), on_kept r _ fun p hp => h p (List.mem_cons_of_mem _ hp)]
    rfl
/-! All lost. -/
theorem fates_lost : ∀ (ns : List Cv) (ss : List (Option Cv)) (ws : List Bool) (u : Nat), (fates [] ns ss ws u).1 = ss
  | [], _, _, _ => by simp [fates]
  | _ :: _, [], _, _ => by simp [fates]
  | _ :: _, _ :: _, [], _ => by simp [fates]
  | n :: ns, s :: ss, true :: ws, u => by
    have e : fateAt [] u = 0 := by unfold fateAt; rw [if_pos rfl]
    simp only [fates, e, fates_lost ns ss ws (u + 1)]
    rfl
  | n :: ns, s :: ss, false :: ws, u => by simp only [fates, fates_lost ns ss ws u]
/-- A file as it was safe, and what came behind it. -/
def LostR (p b : ByteArray × Fl) : Prop := p.1 = b.1 ∧ p.2.sure = true ∧ ∃ k, p.2.safe = b.2.now.map some ++ List.replicate k none
theorem on_lost : ∀ {fs B : Fs} (u : Nat), All2 LostR fs B → onF [] fs u = B.map fun p => (p.1, setl p.2)
  | [], [], _, _ => rfl
  | (s, X) :: r, (t, Y) :: B, u, h => by
    obtain ⟨⟨h1, h2, k, h3⟩, h4⟩ := h
    dsimp only at h1 h2 h3
    have e : onF [] ((s, X) :: r) u = if (fatedF [] X u).1.now = [] ∧ X.sure = false then onF [] r (fatedF [] X u).2 else (s, { (fatedF [] X u).1 with sure := true }) :: onF [] r (fatedF [] X u).2 := rfl
    have e2 : (fatedF [] X u).1 = ⟨Y.now, Y.now.map some, List.replicate Y.now.length false, X.sure⟩ := by
      unfold fatedF
      dsimp only
      rw [fates_lost, h3, trim_none, fill_some]
    rw [e, e2, if_neg (fun hh => by rw [h2] at hh; cases hh.2), on_lost _ h4, h1]
    rfl
theorem find_map {g : Fl → Fl} {s : ByteArray} : ∀ (fs : Fs), findF (fs.map fun p => (p.1, g p.2)) s = (findF fs s).map g
  | [] => rfl
  | (t, y) :: r => by
    rw [List.map_cons, find_cons, find_cons, find_map r]
    split <;> rfl
theorem bytes_map {k k' : Dk} {fs : Fs} {g : Fl → Fl} (hg : ∀ x, (g x).now = x.now) (s : ByteArray) : bytesD ⟨k, fs.map fun p => (p.1, g p.2)⟩ s = bytesD ⟨k', fs⟩ s := by
  unfold bytesD
  dsimp only
  rw [find_map]
  cases findF fs s with
  | none => rfl
  | some x => simp only [Option.map_some, Option.getD_some, hg]
theorem nm_map {fs : Fs} {g : Fl → Fl} : (fs.map fun p => (p.1, g p.2)).map (fun p => p.1) = fs.map fun p => p.1 := by rw [List.map_map]; rfl
/-! A write touches its file alone. -/
theorem put_names {s : ByteArray} {x : Fl} : ∀ {fs : Fs}, Sorted fs → (∃ y, findF fs s = some y) → (putF fs s x).map (fun p => p.1) = fs.map fun p => p.1 := by
  intro fs hs ⟨y, hy⟩
  obtain ⟨a, b, rfl⟩ := List.append_of_mem (find_mem hy)
  rw [put_mid hs]
  simp
theorem put_all2 {s : ByteArray} {x y : Fl} {fs B : Fs} (hs : Sorted fs) (hy : findF fs s = some y) (h : All2 LostR fs B) (hx : ∀ b, LostR (s, y) b → LostR (s, x) b) : All2 LostR (putF fs s x) B := by
  obtain ⟨a, b, rfl⟩ := List.append_of_mem (find_mem hy)
  rw [put_mid hs]
  clear hs hy
  induction a generalizing B with
  | nil =>
    cases B with
    | nil => exact h.elim
    | cons c B => exact ⟨hx c h.1, h.2⟩
  | cons p a ih =>
    cases B with
    | nil => exact h.elim
    | cons c B => exact ⟨h.1, ih h.2⟩
theorem writeF_lost {x : Fl} {s : ByteArray} {i : Nat} {d : ByteArray} (b : ByteArray × Fl) (h : LostR (s, x) b) : LostR (s, writeF x i d) b := by
  obtain ⟨h1, h2, k, h3⟩ := h
  dsimp only at h1 h2 h3
  unfold writeF
  split
  · exact ⟨h1, h2, k + 1, by show x.safe ++ [none] = _; rw [h3, List.append_assoc, List.replicate_succ']⟩
  · exact ⟨h1, h2, k, h3⟩
theorem writeD_cases (D : DM) (s : ByteArray) (i : Int) (d : ByteArray) {x : Fl} (hx : findF D.fs s = some x) : (writeD D s i d).2.fs = D.fs ∨ (∃ j, (writeD D s i d).2.fs = putF D.fs s (writeF x j d)) := by
  unfold writeD
  dsimp only
  rw [hx]
  split
  · exact .inl rfl
  · split
    · exact .inl rfl
    · split
      · exact .inl rfl
      · exact .inr ⟨i.toNat, rfl⟩
theorem writeD_lost {D : DM} {B : Fs} (hs : Sorted D.fs) (h : All2 LostR D.fs B) {s : ByteArray} {i : Int} {d : ByteArray} {x : Fl} (hx : findF D.fs s = some x) : All2 LostR (writeD D s i d).2.fs B := by
  rcases writeD_cases D s i d hx with e | ⟨j, e⟩
  · rw [e]; exact h
  · rw [e]; exact put_all2 hs hx h fun b hb => writeF_lost b hb
theorem writeD_names {D : DM} (hs : Sorted D.fs) {s : ByteArray} {i : Int} {d : ByteArray} {x : Fl} (hx : findF D.fs s = some x) : (writeD D s i d).2.fs.map (fun p => p.1) = D.fs.map fun p => p.1 := by
  rcases writeD_cases D s i d hx with e | ⟨j, e⟩
  · rw [e]
  · rw [e]; exact put_names hs ⟨x, hx⟩
theorem writeD_other {D : DM} (hs : Sorted D.fs) {s t : ByteArray} {i : Int} {d : ByteArray} {x : Fl} (hx : findF D.fs s = some x) (hne : t ≠ s) : bytesD (writeD D s i d).2 t = bytesD D t := by
  unfold bytesD
  rcases writeD_cases D s i d hx with e | ⟨j, e⟩
  · rw [e]
  · rw [e, find_put hs, if_neg hne]
theorem setl_lost (B : Fs) : All2 LostR (B.map fun p => (p.1, setl p.2)) B := by
  induction B with
  | nil => trivial
  | cons p B ih => exact ⟨⟨rfl, rfl, 0, by simp [setl]⟩, ih⟩
theorem mem_find_name {fs : Fs} {s : ByteArray} (h : s ∈ fs.map fun p => p.1) : ∃ x, findF fs s = some x := by
  cases hx : findF fs s with
  | some x => exact ⟨x, rfl⟩
  | none =>
    obtain ⟨p, hp, e⟩ := List.mem_map.1 h
    exact absurd e (none_find hx p hp)
/-! What is refused. -/
theorem beg_armed {k : Dk} (h1 : k.down = false) (h2 : k.at' = 1) (h3 : k.kind = 1 ∨ k.kind = 2) (h4 : k.more = 0) (s : ByteArray) (r : Bool) :
    ((begS k s r) = (1, k)) ∨ ((begS k s r).1 = 10 ∧ k.kind = 2 ∧ (begS k s r).2.down = true ∧ (begS k s r).2.ops = k.ops + 1) ∨ ((begS k s r).1 = 11 ∧ (begS k s r).2.ops = k.ops + 1) := by
  unfold begS
  split
  · exact .inl rfl
  · rw [if_neg (by rw [h1]; decide), if_neg (by omega), if_neg (by omega)]
    split
    · rename_i h; exact .inr (.inl ⟨rfl, h, rfl, rfl⟩)
    · rw [if_neg (by omega)]
      exact .inr (.inr ⟨rfl, rfl⟩)
structure Refd (D D' : DM) (e : Int) : Prop where
  fs : D'.fs = D.fs
  ne : e ≠ 0
  io : e = 11 → D'.k.ops = D.k.ops + 1
  dn : e = 10 → D.k.kind = 2 ∧ D'.k.down = true
theorem found_armed {D : DM} (h1 : D.k.down = false) (h2 : D.k.at' = 1) (h3 : D.k.kind = 1 ∨ D.k.kind = 2) (h4 : D.k.more = 0) (s : ByteArray) (r : Bool) :
    Refd D (foundD D s r).2 (foundD D s r).1 ∧ (foundD D s r).1 ≠ 14 := by
  unfold foundD
  dsimp only
  rcases beg_armed h1 h2 h3 h4 s r with h | ⟨ha, hb, hc, hd⟩ | ⟨ha, hd⟩
  · rw [h]
    exact ⟨⟨rfl, by simp, fun h => (by simp at h), fun h => (by simp at h)⟩, by simp⟩
  · rw [if_pos (by rw [ha]; decide), ha]
    exact ⟨⟨rfl, by decide, fun h => (by cases h), fun _ => ⟨hb, hc⟩⟩, by decide⟩
  · rw [if_pos (by rw [ha]; decide), ha]
    exact ⟨⟨rfl, by decide, fun _ => hd, fun h => (by cases h)⟩, by decide⟩
theorem does_refused {D : DM} (h1 : D.k.down = false) (h2 : D.k.at' = 1) (h3 : D.k.kind = 1 ∨ D.k.kind = 2) (h4 : D.k.more = 0) {y : ActT} (hk : 1 ≤ y.1 ∧ y.1 ≤ 5) : Refd D (doesD y D).2 (doesD y D).1.2 := by
  have F := fun s r => found_armed h1 h2 h3 h4 s r
  have h5 : y.1 = 1 ∨ y.1 = 2 ∨ y.1 = 3 ∨ y.1 = 4 ∨ y.1 = 5 := by omega
  obtain ⟨d1, d2, d3, d4, d5, _⟩ := doesD_is y D y.1 rfl
  rcases h5 with h | h | h | h | h
  · rw [d1 h]
    obtain ⟨a, _⟩ := F y.2.1 true
    unfold readD
    dsimp only
    rw [if_pos a.ne]
    exact a
  · rw [d2 h]
    obtain ⟨a, b⟩ := F y.2.1 (decide (0 ≤ y.2.2.1) && decide ((pgS (dlen y.2.2.2.2.1) y.2.2.2.1).size = 256))
    unfold writeD
    dsimp only
    rw [if_pos ⟨a.ne, .inl b⟩]
    exact a
  · rw [d3 h]
    obtain ⟨a, _⟩ := F y.2.1 true
    unfold syncD
    dsimp only
    rw [if_pos a.ne]
    exact a
  · rw [d4 h]
    obtain ⟨a, _⟩ := F y.2.1 (decide (0 ≤ y.2.2.1))
    unfold cutD
    dsimp only
    rw [if_pos a.ne]
    exact a
  · rw [d5 h]
    obtain ⟨a, _⟩ := F y.2.1 true
    unfold dropD
    dsimp only
    rw [if_pos a.ne]
    exact a
end Go.Proofs.Ytdgmjjidkaafaaa
namespace Go.Proofs.Ytdgmjjidkaafaaa
open Go.RowKit
set_option linter.unusedSimpArgs false
set_option linter.unusedVariables false
/-- A disk behind acts: its power is on, nothing is armed. -/
structure FillD (D : DM) : Prop where
  ok : D.OkN 100
  set : D.Set
  down : D.k.down = false
  at0 : D.k.at' = 0
theorem fill_done {D : DM} (h : D.OkN 80) (hs : D.Set) : FillD (roomD (armD (onD D []) 0 0 0) 16384) := by
  have h1 := on_okN h []
  have h2 := arm_okN (a := 0) (b := 0) (c := 0) h1 (by decide) (by decide) (by decide)
  have h3 := room_okN h2 16384
  refine ⟨h3.mono (by decide), onD_set hs [], ?_, rfl⟩
  show (onD D []).k.down = false
  unfold onD
  split
  · rfl
  · rename_i h; exact (Bool.not_eq_true _).mp h
structure FS where
  i : Nat
  D : DM
  S : Nat → Prop
theorem sub_flat {T : Type} {f : T → List Value} {l : List T} {n i o : Nat} {y : T} (hn : ∀ y, (f y).length = n) (hy : l[i]? = some y) (ho : o = i * n) : subL (l.flatMap f) o n = some (f y) := by
  obtain ⟨hi, he⟩ := List.getElem?_eq_some_iff.1 hy
  have hlen := flat_length hn l
  have hin : i * n + n ≤ l.length * n := by
    have : (i + 1) * n ≤ l.length * n := Nat.mul_le_mul_right n hi
    rw [Nat.add_mul, Nat.one_mul] at this; exact this
  refine subL_in (List.ext_getElem? fun j => ?_) (hn y) (fun _ => by rw [hlen, ho]; omega)
  rw [List.getElem?_take, List.getElem?_drop, ho]
  by_cases hj : j < n
  · rw [if_pos hj, flat_getElem hn l i j y hy hj]
  · rw [if_neg hj, List.getElem?_eq_none (by rw [hn y]; omega)]
theorem acts_still (L : List ActT) (hL : ∀ y ∈ L, ActOk y) : ∀ v ∈ L.flatMap actV, still1 v = true := fun v hv => by
  obtain ⟨y, hy, hv⟩ := List.mem_flatMap.1 hv
  obtain ⟨p, hp⟩ := (hL y hy).v
  simp only [List.mem_cons, List.not_mem_nil, or_false] at hv
  rcases hv with rfl | rfl | rfl | rfl | rfl | rfl <;> first | rfl | (rw [hp]; exact rsl_still)
theorem strEq_self (s : ByteArray) : strEq s s = true := strEq_true.2 rfl
attribute [local irreducible] bytesOf strOf strEq strLt sfrom begS pgS awD newD armD onD doesD dlen roomD
theorem cvDiskSee1 {p : Prop} (h : p := by have nw := True.intro; (repeat' (first | exact True.intro | (with_reducible exact rfl) | (with_reducible exact AbsLe.refl) | (guard_target =~ @Eq Nat _ _; first | exact rfl | omega) | (guard_target =~ List.map _ _ = []; exact rfl) | (first | exact covL_still rfl (acts_still L hL) | exact covL_of rfl (flat_map (fun _ => rfl) _) | first | exact covL_still rfl hvs | exact covL_still rfl (still_map (fun _ => rfl) _) | exact covL_still rfl (still_map ro_still _) | (apply covL_set <;> (try clear nw) <;> have nw := True.intro) | exact congrArg (Value.int _) (by (try dsimp only); omega)) | (exact congrArg (Value.int _) (by omega)) | (exact covL_flat (flat_map (fun _ => rfl) _)) | (exact covL_flat flat_nil) | (refine covP_all ?_; (try clear nw); have nw := True.intro) | (refine covL_each ?_; (try clear nw); have nw := True.intro) | (refine ⟨?_, ?_⟩ <;> (try clear nw) <;> have nw := True.intro) | (guard_hyp nw : True; ((conv => whnf) <;> clear nw)))); (first | done | fail)) : p := h
theorem rnDiskSee2 {p : Prop} (h : p := by refine ⟨?_, ?_, ?_⟩; (first | apply rR_tuple | apply rR_one rfl | exact rfl); all_goals (repeat' (first | (with_reducible (first | exact relH_nil | apply rn_lst | apply rn_own | apply rn_mp | apply rn_row | apply rn_abs | exact wo_nil)) | apply wo_keep rfl | apply wo_drop rfl | exact relH_nil | exact r1_flat rfl | exact r0_flat rfl | exact rl_nil | exact wo_nil | exact bk_old rfl | exact bk_new rfl | exact bk_nil rfl | apply rl_cons | (first | exact relL_still (acts_still L hL) | first | exact relL_still hvs | exact relL_still (still_map (fun _ => rfl) _) | exact relL_still (still_map ro_still _) | exact relL_flat (flat_map (fun _ => rfl) _) | apply relL_set) | exact relL_flat (flat_map (fun _ => rfl) _) | exact relL_flat flat_nil | apply relL_to | apply rn_lst | apply rn_own | apply rn_mp | apply rn_row | apply relH_view rfl | apply relH_lview rfl | apply relH_fact rfl | exact r1_rig | exact r0_rig | exact r1_rigs | exact r0_rigs | apply wo_keep rfl | apply wo_drop rfl | apply r1_agg | apply rn_ptr | apply rn_slice | apply rn_slice0 | apply rn_iface | apply rn_map | apply rn_ifacem | apply r0_map | apply r0_ifacem | apply r0_ptr | apply r0_slice | apply r0_slice0 | apply r0_iface)); (first | done | fail)) : p := h
set_option maxRecDepth 100000 in
set_option maxHeartbeats 4000000 in
theorem filled_c (N : Nat) (L : List ActT) (cap : Nat) (hL : ∀ y ∈ L, ActOk y) (hl : L.length ≤ 4611686018427387904) :
    CallOb Try.prog 16 [mslice 0 L.length cap] [(0, .lview (L.flatMap actV)), (1, actsI N L)] 2 (fun v h m => ∃ z : DM × (Nat → Prop), FillD z.1 ∧ v = ptr 2 ∧ h = [(2, diskI z.2 z.1)] ∧ m = 300) := by
  refine call_spec tabOk mixed Try.call16 Try.func16 rfl [] (fun z : DM × (Nat → Prop) => FillD z.1) (fun _ => ptr 2) (fun z => [(2, diskI z.2 z.1)]) (fun _ => 300) ?_ ?_
  · exact (Nat.le_of_ble_eq_true rfl)
  (repeat' ((try (conv => whnf)); first | (guard_target =~ ∃ (_ : Value), ∃ (_ : HP), ∃ (_ : HP), _; refine ⟨_, _, _, rnDiskSee2, ?_⟩; (try (dsimp only [Nat.reduceAdd, List.cons_append, List.nil_append]))) | (guard_target =~ CallOb _ 9 _ _ _ _; refine call_q (new_c 16384 (by decide)) [] cvDiskSee1 (by rfl) (by rfl) (by rfl) (fun v h1 n1 hp => ?_); obtain ⟨D, S, rfl, rfl, rfl, rfl⟩ := hp; (try (dsimp only [Nat.reduceAdd, List.cons_append, List.nil_append]))) | (guard_target =~ LoopOb _ _ _ _ _ _ _ _; refine loop_rule tabOk mixed [] 3 (fun k => [(0, mslice 0 L.length cap), (3, ptr 2), (4, iv (FS.i k : Nat))]) (fun k => [(0, .lview (L.flatMap actV)), (1, actsI N L), (2, diskI (FS.S k) (FS.D k))]) (fun k => 80 - FS.i k) (fun k => FS.i k ≤ 80 ∧ (FS.D k).OkN (FS.i k : Nat) ∧ (FS.D k).Set) (⟨0, newD 16384, S⟩) (⟨Nat.zero_le _, new_okN _, newD_set _⟩) ⟨[(2, some 2)], Sub.q cvDiskSee1 (by rfl) (by rfl)⟩ (fun k hk => ?_)) | (guard_hyp k : FS; rcases k with ⟨i, D, S⟩; dsimp only at hk ⊢; obtain ⟨hk1, hk2, hk3⟩ := hk; have mk1 : 1 = 1 := rfl) | (guard_target =~ ∃ (_ : Nat), _ ∧ _; guard_hyp mk1 : 1 = 1; refine ⟨i, by omega, by omega, ?_⟩) | (guard_hyp mk1 : 1 = 1; obtain ⟨y, hyi⟩ : ∃ y, L[i]? = some y := ⟨_, List.getElem?_eq_getElem (show i < L.length by omega)⟩; have hy := List.mem_of_getElem? hyi; have hok := hL y hy; obtain ⟨p, hp⟩ := hok.v; obtain ⟨kind, name, num, fill, len, fv, cap2, F⟩ := y; dsimp only at hp; subst hp; refine onS_in (sub_flat (f := actV) (n := 6) (fun _ => rfl) hyi (by omega)) ?_) | (guard_target =~ CallOb _ 25 _ _ _ _; refine call_q (does_c S D (up_ok hk2 (by omega)) N L _ hy hok) [(0, some 2), (1, some 1)] cvDiskSee1 (by rfl) (by rfl) (by rfl) (fun v h1 n1 hp => ?_); obtain ⟨⟨⟨sa, ea⟩, D2, S2⟩, hr, rfl, rfl, rfl⟩ := hp; have hD2 : D2 = (doesD _ D).2 := congrArg Prod.snd hr; have hN2 : D2.OkN ((i + 1 : Nat) : Int) := (by rw [hD2]; exact (does_okN hok hk2)); have hS2 : D2.Set := (by rw [hD2]; exact doesD_set hk3 _); (try (dsimp only [Nat.reduceAdd, List.cons_append, List.nil_append]))) | (guard_target =~ CallOb _ 22 _ _ _ _; refine call_q (on_c S D (up_ok hk2 (by omega)) [] 0 (by decide)) [(0, some 2), (1, none)] cvDiskSee1 (by rfl) (by rfl) (by rfl) (fun v h1 n1 hp => ?_); obtain ⟨_, D3, S3, h3, rfl, rfl, rfl⟩ := hp; (try (dsimp only [Nat.reduceAdd, List.cons_append, List.nil_append]))) | (guard_target =~ CallOb _ 12 _ _ _ _; refine call_q (arm_c S3 D3 (up_ok (n := 80) (by rw [h3]; exact (on_okN hk2 []).mono (by omega)) (by omega)) 0 0 0 (by decide)) [(0, some 2)] cvDiskSee1 (by rfl) (by rfl) (by rfl) (fun v h1 n1 hp => ?_); obtain ⟨_, D4, S4, h4, rfl, rfl, rfl⟩ := hp; (try (dsimp only [Nat.reduceAdd, List.cons_append, List.nil_append]))) | (guard_target =~ CallOb _ 35 _ _ _ _; refine call_q (room_c S4 D4 (up_ok (n := 80) (by rw [h4, h3]; exact (arm_okN (on_okN hk2 []) (by decide) (by decide) (by decide)).mono (by omega)) (by omega)) 16384 (by decide)) [(0, some 2)] cvDiskSee1 (by rfl) (by rfl) (by rfl) (fun v h1 n1 hp => ?_); obtain ⟨_, D5, S5, h5, rfl, rfl, rfl⟩ := hp; (try (dsimp only [Nat.reduceAdd, List.cons_append, List.nil_append]))) | (with_reducible refine chk_in (Nat.ble_eq_true_of_le (by omega)) ?_) | (with_reducible refine ifB_in ?_ ?_ <;> intro hb <;> (try simp only [decide_eq_true_eq, decide_eq_false_iff_not, Int.not_lt, Int.not_le, ne_eq, Decidable.not_not, Bool.not_eq_true', Bool.not_eq_false', gt_iff_lt, ge_iff_le] at hb) <;> (try (exfalso; omega))) | (with_reducible refine ⟨_, w64b _, ?_⟩) | (with_reducible refine ⟨_, w64 (by omega) (by omega), ?_⟩) | (with_reducible refine ⟨_, wu64 (by omega) (by omega), ?_⟩) | (with_reducible refine ⟨_, wu8 (by omega) (by omega), ?_⟩) | (with_reducible refine ⟨_, w64 (by (simp only [size_sfrom, ByteArray.size_extract, ByteArray.size_append, strOf_size, fixedL_length, lit_size, List.size_toArray, List.length_cons, List.length_nil, List.length_append, List.length_replicate]; omega)) (by (simp only [size_sfrom, ByteArray.size_extract, ByteArray.size_append, strOf_size, fixedL_length, lit_size, List.size_toArray, List.length_cons, List.length_nil, List.length_append, List.length_replicate]; omega)), ?_⟩) | (with_reducible refine ⟨_, rfl, ?_⟩) | (with_reducible refine ⟨rfl, ?_⟩) | (intro cap) | (with_reducible refine ⟨trivial, ?_⟩) | (guard_target =~ (planChk _ _ = true) ∧ _; refine ⟨by kernel_rfl, ?_⟩) | (guard_target =~ (_ ∧ _) ∧ _; refine ⟨by ((repeat (first | exact trivial | refine ⟨rfl, ?_⟩)); (first | done | fail)), ?_⟩) | (refine ⟨by omega, ?_⟩) | (refine ⟨by (simp only [size_sfrom, ByteArray.size_extract, ByteArray.size_append, strOf_size, fixedL_length, lit_size, List.size_toArray, List.length_cons, List.length_nil, List.length_append, List.length_replicate]; omega), ?_⟩) | (refine ⟨0, rfl, ?_⟩) | (refine ⟨1, rfl, ?_⟩) | (refine ⟨2, rfl, ?_⟩) | (refine ⟨3, rfl, ?_⟩) | (refine ⟨4, rfl, ?_⟩) | (refine ⟨5, rfl, ?_⟩) | (refine cell_at1 (by assumption) ?_) | (refine cell_in1 (by omega) (fun x hx => ?_)) | fail)) <;> (try (conv => whnf))
  all_goals first
    | ((refine Again.go ((⟨i + 1, D2, S2⟩ : FS)) ?_ (by (try dsimp only); omega) [(2, some 2)] (Sub.q cvDiskSee1 (by rfl) (by rfl))); exact ⟨by dsimp only; omega, hN2, hS2⟩)
    | ((refine Ends.go (((D5, S5) : DM × (Nat → Prop))) ?_ [(2, some 2)] (Fit.q cvDiskSee1 (by rfl) (by rfl))); rw [h5, h4, h3]; exact fill_done (hk2.mono (by omega)) hk3)
    | trace_state
theorem cvDiskSee3 {p : Prop} (h : p := by have nw := True.intro; (repeat' (first | exact True.intro | (with_reducible exact rfl) | (with_reducible exact AbsLe.refl) | (guard_target =~ @Eq Nat _ _; first | exact rfl | omega) | (guard_target =~ List.map _ _ = []; exact rfl) | (first | exact covL_of rfl (flat_map (fun _ => rfl) _) | first | exact covL_still rfl hvs | exact covL_still rfl (still_map (fun _ => rfl) _) | exact covL_still rfl (still_map ro_still _) | (apply covL_set <;> (try clear nw) <;> have nw := True.intro) | exact congrArg (Value.int _) (by (try dsimp only); omega)) | (exact congrArg (Value.int _) (by omega)) | (exact covL_flat (flat_map (fun _ => rfl) _)) | (exact covL_flat flat_nil) | (refine covP_all ?_; (try clear nw); have nw := True.intro) | (refine covL_each ?_; (try clear nw); have nw := True.intro) | (refine ⟨?_, ?_⟩ <;> (try clear nw) <;> have nw := True.intro) | (guard_hyp nw : True; ((conv => whnf) <;> clear nw)))); (first | done | fail)) : p := h
set_option maxRecDepth 100000 in
theorem same_c (a : List ByteArray) (ca cb : Nat) (hl : a.length ≤ 4611686018427387904) :
    CallOb Try.prog 23 [mslice 0 a.length ca, mslice 1 a.length cb] [(0, .lview (a.map .string)), (1, .lview (a.map .string))] 2 (fun v h m => ∃ z : Bool, z = true ∧ v = .bool z ∧ h = [] ∧ m = 2) := by
  refine call_spec tabOk mixed Try.call23 Try.func23 rfl [(6, [(0, true), (1, true), (2, true), (3, true), (4, true), (5, true), (6, true), (7, true), (8, true)])] (fun z : Bool => z = true) (fun z => .bool z) (fun _ => []) (fun _ => 2) ?_ ?_
  · exact (Nat.le_of_ble_eq_true rfl)
  (repeat' ((try (conv => whnf)); first | (guard_target =~ ∃ (_ : Value), ∃ (_ : HP), ∃ (_ : HP), _; refine ⟨_, _, _, rnDiskSee2, ?_⟩; (try (dsimp only [Nat.reduceAdd, List.cons_append, List.nil_append]))) | (guard_target =~ LoopOb _ _ _ _ _ _ _ _; refine loop_rule tabOk mixed [(6, [(0, true), (1, true), (2, true), (3, true), (4, true), (5, true), (6, true), (7, true), (8, true)])] 2 (fun k => [(0, mslice 0 a.length ca), (1, mslice 1 a.length cb), (5, iv (k : Nat))]) (fun k => [(0, .lview (a.map .string)), (1, .lview (a.map .string))]) (fun k => a.length - k) (fun k => k ≤ a.length) (0) (Nat.zero_le _) ⟨[], Sub.q cvDiskSee3 (by rfl) (by rfl)⟩ (fun k hk => ?_)) | (guard_target =~ ∃ (_ : Nat), _ ∧ _; refine ⟨k, by omega, by omega, ?_⟩) | (obtain ⟨s, hs⟩ : ∃ s, a[k]? = some s := ⟨_, List.getElem?_eq_getElem (show k < a.length by omega)⟩; refine cell_at1 hs ?_) | (with_reducible refine chk_in (Nat.ble_eq_true_of_le (by omega)) ?_) | (with_reducible refine ifB_in ?_ ?_ <;> intro hb <;> (try simp only [decide_eq_true_eq, decide_eq_false_iff_not, Int.not_lt, Int.not_le, ne_eq, Decidable.not_not, Bool.not_eq_true', Bool.not_eq_false', gt_iff_lt, ge_iff_le] at hb) <;> (try (exfalso; omega))) | (with_reducible refine ⟨_, w64b _, ?_⟩) | (with_reducible refine ⟨_, w64 (by omega) (by omega), ?_⟩) | (with_reducible refine ⟨_, wu64 (by omega) (by omega), ?_⟩) | (with_reducible refine ⟨_, wu8 (by omega) (by omega), ?_⟩) | (with_reducible refine ⟨_, w64 (by (simp only [size_sfrom, ByteArray.size_extract, ByteArray.size_append, strOf_size, fixedL_length, lit_size, List.size_toArray, List.length_cons, List.length_nil, List.length_append, List.length_replicate]; omega)) (by (simp only [size_sfrom, ByteArray.size_extract, ByteArray.size_append, strOf_size, fixedL_length, lit_size, List.size_toArray, List.length_cons, List.length_nil, List.length_append, List.length_replicate]; omega)), ?_⟩) | (with_reducible refine ⟨_, rfl, ?_⟩) | (with_reducible refine ⟨rfl, ?_⟩) | (intro cap) | (with_reducible refine ⟨trivial, ?_⟩) | (guard_target =~ (planChk _ _ = true) ∧ _; refine ⟨by kernel_rfl, ?_⟩) | (guard_target =~ (_ ∧ _) ∧ _; refine ⟨by ((repeat (first | exact trivial | refine ⟨rfl, ?_⟩)); (first | done | fail)), ?_⟩) | (refine ⟨by omega, ?_⟩) | (refine ⟨by (simp only [size_sfrom, ByteArray.size_extract, ByteArray.size_append, strOf_size, fixedL_length, lit_size, List.size_toArray, List.length_cons, List.length_nil, List.length_append, List.length_replicate]; omega), ?_⟩) | (refine ⟨0, rfl, ?_⟩) | (refine ⟨1, rfl, ?_⟩) | (refine ⟨2, rfl, ?_⟩) | (refine ⟨3, rfl, ?_⟩) | (refine ⟨4, rfl, ?_⟩) | (refine ⟨5, rfl, ?_⟩) | (refine cell_at1 (by assumption) ?_) | (refine cell_in1 (by omega) (fun x hx => ?_)) | fail)) <;> (try (conv => whnf))
  all_goals first
    | (exfalso; exact hb trivial)
    | ((refine Again.go ((k + 1 : Nat)) ?_ (by (try dsimp only); omega) [] (Sub.q cvDiskSee3 (by rfl) (by rfl))); omega)
    | ((refine Ends.go (true) ?_ [] (Fit.q cvDiskSee3 (by rfl) (by rfl))); rfl)
    | (exfalso; simp_all [strEq_self])
    | trace_state
end Go.Proofs.Ytdgmjjidkaafaaa
namespace Go.Proofs.Ytdgmjjidkaafaaa
open Go.RowKit
set_option linter.unusedSimpArgs false
set_option linter.unusedVariables false
abbrev ActF (w : World) (y : ActT) : Prop := (Lit.int .i64 (y.1)).wf = true ∧ (y.2.1).size ≤ maxLen ∧ (Lit.int .i64 (y.2.2.1)).wf = true ∧ (Lit.int .u8 (y.2.2.2.1)).wf = true ∧ (Lit.int .i64 (y.2.2.2.2.1)).wf = true ∧ (SlcAt w (y.2.2.2.2.2).1 (y.2.2.2.2.2).2.2.length (y.2.2.2.2.2).2.1 ((y.2.2.2.2.2).2.2.flatMap (fun y : Int => [.int .i64 y])) ∧ (y.2.2.2.2.2).2.2.length ≤ (y.2.2.2.2.2).2.1 ∧ (y.2.2.2.2.2).2.1 ≤ maxLen ∧ ∀ z ∈ (y.2.2.2.2.2).2.2, (fun y : Int => (Lit.int .i64 y).wf = true) z)
theorem ActF.slc {w : World} {y : ActT} (h : ActF w y) : SlcIn w.heap.size w y.2.2.2.2.2.1 y.2.2.2.2.2.2.2.length y.2.2.2.2.2.2.1 (y.2.2.2.2.2.2.2.map iv) := by
  have := h.2.2.2.2.2.1
  rw [flatMap_one] at this
  exact this.slcIn
theorem ActF.ok {w : World} {y : ActT} (h : ActF w y) : ActOk y :=
  ⟨bounds_i64 h.1, bounds_i64 h.2.2.1, bounds_u8 h.2.2.2.1, bounds_i64 h.2.2.2.2.1, Nat.le_trans h.2.2.2.2.2.2.1 h.2.2.2.2.2.2.2.1, h.slc.slice⟩
theorem rsl_V1 {m : BM} {p : Option Addr} {l k : Nat} : V1 m (rsl (.slice p l k)) (.slice p l k) := by
  have h := (rsl_V0 (m := m) (p := p) (l := l) (k := k)).2 rfl
  cases p with
  | none => exact (V1.of0 rfl).2 h
  | some a => exact (V1.of0 rfl).2 h
theorem acts_LR {m : BM} : ∀ {L : List ActT}, (∀ y ∈ L, ∃ p, y.2.2.2.2.2.1 = .slice p y.2.2.2.2.2.2.2.length y.2.2.2.2.2.2.1) → LR (V1 m) (L.flatMap actV) (L.flatMap actW)
  | [], _ => trivial
  | y :: L, h => by
    rw [List.flatMap_cons, List.flatMap_cons]
    refine LR.append ?_ (acts_LR fun z hz => h z (.tail _ hz))
    obtain ⟨p, hp⟩ := h y (.head _)
    exact ⟨(V1.flat rfl).2 rfl, (V1.flat rfl).2 rfl, (V1.flat rfl).2 rfl, (V1.flat rfl).2 rfl, (V1.flat rfl).2 rfl, by rw [hp]; exact rsl_V1, trivial⟩
/-- The acts, and what is known of them. -/
theorem acts_see {F : Nat → Prop} {B : Nat} {w0 : World} {m : BM} {h : HP} {n : Nat} {w : World} (H : HRel F B w0 m h n w) (hv : ∀ i it, lkH h i = some it → it.mine = false) {L : List ActT} {v : Value} {cap : Nat} (S : SlcAt w v L.length cap (L.flatMap actW)) (hw : ∀ y ∈ L, ActF w y) :
    ∃ m', m.le m' ∧ HRel F B w0 m' ((n + 1, actsI w.heap.size L) :: (n, .lview (L.flatMap actV)) :: h) (n + 1 + 1) w ∧ V0 m' (mslice n L.length cap) v := by
  obtain ⟨m1, l1, H1, hv1, hs⟩ := H.seeR hv S (fun m => acts_LR (m := m) fun y hy => (hw y hy).slc.slice)
  obtain ⟨m2, l2, H2, _⟩ := H1.fact hv1 (fun b => b < w.heap.size) (ActsAt w.heap.size L) (fun _ h => h) (ActsAt.stab _ _) (fun y hy => (hw y hy).slc)
  exact ⟨m2, fun a b c e => l2 _ _ _ (l1 _ _ _ e), H2, hs.mono l2⟩
end Go.Proofs.Ytdgmjjidkaafaaa
