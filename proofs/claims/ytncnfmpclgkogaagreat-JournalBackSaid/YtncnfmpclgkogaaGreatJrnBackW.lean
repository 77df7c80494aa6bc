/- JournalBack: a change under a journal, cut off at any operation (plain); its walk. -/
import Derived.Test.YtncnfmpclgkogaaGreatJrnRestAll
import Derived.Test.YtncnfmpclgkogaaGreatDiskOn
namespace Go.Proofs.YtncnfmpclgkogaaGreat
open Go.RowKit
set_option linter.unusedSimpArgs false
set_option linter.unusedVariables false
/-! What is read of a journal's sectors, and what fates leave of them. -/
noncomputable def rdC : List Cv → FM → Bool → FM
  | [], F, _ => F
  | none :: _, F, _ => F
  | some d :: r, F, b => match stepF F d b with | none => F | some F' => rdC r F' false
theorem rd_run : ∀ {l : List Cv} {F F' : FM} {b : Bool}, runC l F b = some F' → rdC l F b = F'
  | [], F, F', b, h => by cases h; rfl
  | none :: l, F, F', b, h => by cases h
  | some d :: l, F, F', b, h => by
    simp only [runC] at h
    simp only [rdC]
    cases hs : stepF F d b with
    | none => rw [hs] at h; cases h
    | some F2 => rw [hs] at h; exact rd_run h
theorem zero_step (F : FM) (b : Bool) : stepF F zero256 b = none := by
  have hk : kindAt (bytesOf zero256) = 0 := by unfold kindAt zero256; rw [bytesOf_strOf]; decide +kernel
  unfold stepF
  split
  · unfold addF
    rw [hk]
    split
    · rfl
    · rw [if_neg (by decide), if_neg (by decide)]
  · rfl
/-- What may become of sectors, the first s of them safe. -/
def Fz : Nat → List Cv → List Cv → Prop
  | 0, _, [] => True
  | 0, [], _ :: _ => False
  | 0, n :: ns, c :: t => (c = n ∨ c = none ∨ c = some zero256) ∧ Fz 0 ns t
  | s + 1, n :: ns, c :: t => c = n ∧ Fz s ns t
  | _ + 1, [], _ => False
  | _ + 1, _ :: _, [] => False
theorem Fz.len : ∀ {s : Nat} {now t : List Cv}, Fz s now t → s ≤ now.length ∧ s ≤ t.length ∧ t.length ≤ now.length
  | 0, _, [], _ => ⟨Nat.zero_le _, Nat.zero_le _, Nat.zero_le _⟩
  | 0, [], _ :: _, h => h.elim
  | 0, n :: ns, c :: t, h => ⟨Nat.zero_le _, Nat.zero_le _, Nat.succ_le_succ (Fz.len h.2).2.2⟩
  | s + 1, n :: ns, c :: t, h => ⟨Nat.succ_le_succ (Fz.len h.2).1, Nat.succ_le_succ (Fz.len h.2).2.1, Nat.succ_le_succ (Fz.len h.2).2.2⟩
  | _ + 1, [], _, h => h.elim
  | _ + 1, _ :: _, [], h => h.elim
theorem rd_fz : ∀ {s : Nat} {now t : List Cv} (F : FM) (b : Bool), Fz s now t → ∃ k, s ≤ k ∧ k ≤ now.length ∧ rdC t F b = rdC (now.take k) F b
  | 0, now, [], F, b, _ => ⟨0, Nat.le_refl _, Nat.zero_le _, by rw [List.take_zero]⟩
  | 0, [], _ :: _, _, _, h => h.elim
  | 0, n :: ns, c :: t, F, b, h => by
    have stop : rdC (c :: t) F b = F → ∃ k, 0 ≤ k ∧ k ≤ (n :: ns).length ∧ rdC (c :: t) F b = rdC ((n :: ns).take k) F b := fun e => ⟨0, Nat.le_refl _, Nat.zero_le _, e.trans rfl⟩
    rcases h.1 with e | e | e
    · subst e
      cases c with
      | none => exact stop rfl
      | some d =>
        cases hs : stepF F d b with
        | none => exact stop (by simp only [rdC, hs])
        | some F' =>
          obtain ⟨k, h1, h2, h3⟩ := rd_fz F' false h.2
          exact ⟨k + 1, Nat.zero_le _, Nat.succ_le_succ h2, by simp only [rdC, List.take_succ_cons, hs]; exact h3⟩
    · subst e; exact stop rfl
    · subst e; exact stop (by simp only [rdC, zero_step])
  | s + 1, n :: ns, c :: t, F, b, h => by
    obtain ⟨e, h2⟩ := h
    have hl := h2.len
    subst e
    have stop : rdC (c :: t) F b = F → rdC (c :: ns) F b = F → ∃ k, s + 1 ≤ k ∧ k ≤ (c :: ns).length ∧ rdC (c :: t) F b = rdC ((c :: ns).take k) F b := fun e e' => ⟨(c :: ns).length, Nat.succ_le_succ hl.1, Nat.le_refl _, by rw [List.take_length, e, e']⟩
    cases c with
    | none => exact stop rfl rfl
    | some d =>
      cases hs : stepF F d b with
      | none => exact stop (by simp only [rdC, hs]) (by simp only [rdC, hs])
      | some F' =>
        obtain ⟨k, h1, h3, h4⟩ := rd_fz F' false h2
        exact ⟨k + 1, Nat.succ_le_succ h1, Nat.succ_le_succ h3, by simp only [rdC, List.take_succ_cons, hs]; exact h4⟩
  | _ + 1, [], _, _, _, h => h.elim
  | _ + 1, _ :: _, [], _, _, h => h.elim
theorem trim_some (c : Cv) (r : List (Option Cv)) : trimC (some c :: r) = some c :: trimC r := by
  have e : trimC (some c :: r) = (match trimC r, some c with | [], none => [] | t, c => c :: t) := rfl
  rw [e]
  cases trimC r <;> rfl
theorem trim_none (r : List (Option Cv)) : (trimC r = [] ∧ trimC (none :: r) = []) ∨ (trimC r ≠ [] ∧ trimC (none :: r) = none :: trimC r) := by
  have e : trimC (none :: r) = (match trimC r, (none : Option Cv) with | [], none => [] | t, c => c :: t) := rfl
  rw [e]
  cases trimC r with
  | nil => exact .inl ⟨rfl, rfl⟩
  | cons a t => exact .inr ⟨by simp, rfl⟩
theorem trim_len : ∀ (r : List (Option Cv)), (trimC r).length ≤ r.length
  | [] => Nat.le_refl _
  | some c :: r => by rw [trim_some]; exact Nat.succ_le_succ (trim_len r)
  | none :: r => by
    rcases trim_none r with ⟨_, e⟩ | ⟨_, e⟩
    · rw [e]; exact Nat.zero_le _
    · rw [e]; exact Nat.succ_le_succ (trim_len r)
theorem trimP_at : ∀ {r : List (Option Cv)} {i : Nat} {c : Cv}, r[i]? = some (some c) → (trimC r)[i]? = some (some c)
  | [], i, c, h => by simp at h
  | some a :: r, 0, c, h => by rw [trim_some]; exact h
  | some a :: r, i + 1, c, h => by rw [trim_some]; exact trimP_at (r := r) h
  | none :: r, 0, c, h => by cases h
  | none :: r, i + 1, c, h => by
    have ih := trimP_at (r := r) (i := i) h
    rcases trim_none r with ⟨e, _⟩ | ⟨_, e⟩
    · rw [e] at ih; cases ih
    · rw [e]; exact ih
theorem fate_cases (f : Int) (n : Cv) (s : Option Cv) : fateC f n s = some n ∨ fateC f n s = some none ∨ fateC f n s = s := by
  unfold fateC
  split
  · exact .inl rfl
  · split
    · exact .inr (.inl rfl)
    · exact .inr (.inr rfl)
theorem fatesP_len (l : List Int) : ∀ (ns : List Cv) (ss : List (Option Cv)) (ws : List Bool) (u : Nat), (fates l ns ss ws u).1.length = ss.length
  | [], _, _, _ => by simp only [fates]
  | _ :: _, [], _, _ => by simp only [fates]
  | _ :: _, _ :: _, [], _ => by simp only [fates]
  | n :: ns, s :: ss, true :: ws, u => by
    show (fateC _ n s :: (fates l ns ss ws (u + 1)).1).length = _
    rw [List.length_cons, fatesP_len l ns ss ws, List.length_cons]
  | n :: ns, s :: ss, false :: ws, u => by
    show (s :: (fates l ns ss ws u).1).length = _
    rw [List.length_cons, fatesP_len l ns ss ws, List.length_cons]
theorem fates_still (l : List Int) : ∀ {ns : List Cv} {ss : List (Option Cv)} {ws : List Bool} {u i : Nat}, ws[i]? = some false → (fates l ns ss ws u).1[i]? = ss[i]?
  | [], _, _, _, _, _ => by simp only [fates]
  | _ :: _, [], _, _, _, _ => by simp only [fates]
  | _ :: _, _ :: _, [], _, _, _ => by simp only [fates]
  | n :: ns, s :: ss, true :: ws, u, 0, h => by cases h
  | n :: ns, s :: ss, true :: ws, u, i + 1, h => fates_still l (ns := ns) (ss := ss) (ws := ws) (u := u + 1) (i := i) h
  | n :: ns, s :: ss, false :: ws, u, 0, h => rfl
  | n :: ns, s :: ss, false :: ws, u, i + 1, h => fates_still l (ns := ns) (ss := ss) (ws := ws) (u := u) (i := i) h
theorem fates_some (l : List Int) : ∀ {ns : List Cv} {ss : List (Option Cv)} {ws : List Bool} {u i : Nat}, (∃ c, ss[i]? = some (some c)) → ∃ c, (fates l ns ss ws u).1[i]? = some (some c)
  | [], _, _, _, _, h => by simpa only [fates] using h
  | _ :: _, [], _, _, _, h => by simpa only [fates] using h
  | _ :: _, _ :: _, [], _, _, h => by simpa only [fates] using h
  | n :: ns, s :: ss, true :: ws, u, 0, ⟨c, h⟩ => by
    obtain rfl : s = some c := Option.some.inj h
    show ∃ c', some (fateC (fateAt l u) n (some c)) = some (some c')
    rcases fate_cases (fateAt l u) n (some c) with e | e | e <;> rw [e]
    · exact ⟨_, rfl⟩
    · exact ⟨_, rfl⟩
    · exact ⟨_, rfl⟩
  | n :: ns, s :: ss, true :: ws, u, i + 1, h => fates_some l (ns := ns) (ss := ss) (ws := ws) (u := u + 1) (i := i) h
  | n :: ns, s :: ss, false :: ws, u, 0, h => h
  | n :: ns, s :: ss, false :: ws, u, i + 1, h => fates_some l (ns := ns) (ss := ss) (ws := ws) (u := u) (i := i) h
theorem fz_fates (l : List Int) : ∀ (now : List Cv) (s u : Nat), s ≤ now.length → Fz s now ((trimC (fates l now ((now.take s).map some ++ List.replicate (now.length - s) none) (List.replicate s false ++ List.replicate (now.length - s) true) u).1).map fillC)
  | [], s, u, h => by
    obtain rfl : s = 0 := Nat.le_zero.1 h
    exact trivial
  | n :: ns, 0, u, _ => by
    have ih := fz_fates l ns 0 (u + 1) (Nat.zero_le _)
    have e : (fates l (n :: ns) (((n :: ns).take 0).map some ++ List.replicate ((n :: ns).length - 0) none) (List.replicate 0 false ++ List.replicate ((n :: ns).length - 0) true) u).1 =
        fateC (fateAt l u) n none :: (fates l ns ((ns.take 0).map some ++ List.replicate (ns.length - 0) none) (List.replicate 0 false ++ List.replicate (ns.length - 0) true) (u + 1)).1 := rfl
    rw [e]
    generalize (fates l ns ((ns.take 0).map some ++ List.replicate (ns.length - 0) none) (List.replicate 0 false ++ List.replicate (ns.length - 0) true) (u + 1)).1 = r at ih
    rcases fate_cases (fateAt l u) n none with e | e | e <;> rw [e]
    · rw [trim_some]; exact ⟨.inl rfl, ih⟩
    · rw [trim_some]; exact ⟨.inr (.inl rfl), ih⟩
    · rcases trim_none r with ⟨_, e⟩ | ⟨_, e⟩
      · rw [e]; exact trivial
      · rw [e]; exact ⟨.inr (.inr rfl), ih⟩
  | n :: ns, s + 1, u, h => by
    have ih := fz_fates l ns s u (Nat.le_of_succ_le_succ h)
    have hs : (n :: ns).length - (s + 1) = ns.length - s := by rw [List.length_cons]; omega
    rw [hs]
    have e : (fates l (n :: ns) (((n :: ns).take (s + 1)).map some ++ List.replicate (ns.length - s) none) (List.replicate (s + 1) false ++ List.replicate (ns.length - s) true) u).1 =
        some n :: (fates l ns ((ns.take s).map some ++ List.replicate (ns.length - s) none) (List.replicate s false ++ List.replicate (ns.length - s) true) u).1 := rfl
    rw [e, trim_some]
    exact ⟨rfl, ih⟩
/-! A file behind a loss of power. -/
def setF (t : List Cv) : Fl := ⟨t, t.map some, List.replicate t.length false, true⟩
def onT (l : List Int) (x : Fl) (u : Nat) : List Cv := (trimC (fates l x.now x.safe x.wait u).1).map fillC
noncomputable def onO (l : List Int) (o : Option Fl) (u : Nat) : Option Fl := match o with | none => none | some x => by classical exact if onT l x u = [] ∧ x.sure = false then none else some (setF (onT l x u))
def onU (l : List Int) (o : Option Fl) (u : Nat) : Nat := match o with | none => u | some x => (fatedF l x u).2
theorem on_nil (l : List Int) (u : Nat) : onF l [] u = [] := rfl
theorem on_cons (l : List Int) (s : ByteArray) (x : Fl) (r : Fs) (u : Nat) : onF l ((s, x) :: r) u = (match onO l (some x) u with | none => onF l r (fatedF l x u).2 | some y => (s, y) :: onF l r (fatedF l x u).2) := by
  show (if (fatedF l x u).1.now = [] ∧ x.sure = false then onF l r (fatedF l x u).2 else (s, { (fatedF l x u).1 with sure := true }) :: onF l r (fatedF l x u).2) = _
  have e : (fatedF l x u).1.now = onT l x u := rfl
  rw [e]
  unfold onO
  by_cases h : onT l x u = [] ∧ x.sure = false
  · rw [if_pos h]; dsimp only; rw [if_pos h]
  · rw [if_neg h]; dsimp only; rw [if_neg h]; rfl
theorem on_fs2 (l : List Int) (m j : Option Fl) (u : Nat) : onF l (fs2 m j) u = fs2 (onO l m u) (onO l j (onU l m u)) := by
  cases m with
  | none =>
    cases j with
    | none => rfl
    | some y =>
      show onF l [(jnN, y)] u = _
      rw [on_cons, on_nil]
      show _ = fs2 none (onO l (some y) u)
      cases onO l (some y) u <;> rfl
  | some x =>
    cases j with
    | none =>
      show onF l [(mainN, x)] u = _
      rw [on_cons, on_nil]
      show _ = fs2 (onO l (some x) u) none
      cases onO l (some x) u <;> rfl
    | some y =>
      show onF l [(mainN, x), (jnN, y)] u = _
      rw [on_cons, on_cons, on_nil]
      show _ = fs2 (onO l (some x) u) (onO l (some y) (fatedF l x u).2)
      cases onO l (some x) u <;> cases onO l (some y) (fatedF l x u).2 <;> rfl
theorem onT_len (l : List Int) (x : Fl) (u : Nat) : (onT l x u).length ≤ x.safe.length := by
  unfold onT
  rw [List.length_map]
  exact Nat.le_trans (trim_len _) (Nat.le_of_eq (fatesP_len l _ _ _ _))
theorem fates_set (l : List Int) : ∀ (t : List Cv) (u : Nat), (fates l t (t.map some) (List.replicate t.length false) u).1 = t.map some
  | [], _ => rfl
  | n :: t, u => by
    have e : (fates l (n :: t) ((n :: t).map some) (List.replicate (n :: t).length false) u).1 = some n :: (fates l t (t.map some) (List.replicate t.length false) u).1 := rfl
    rw [e, fates_set l t u]
    rfl
theorem trim_all : ∀ (t : List Cv), trimC (t.map some) = t.map some
  | [] => rfl
  | c :: t => by rw [List.map_cons, trim_some, trim_all t]
theorem onT_set (l : List Int) (t : List Cv) (u : Nat) : onT l (setF t) u = t := by
  unfold onT setF
  dsimp only
  rw [fates_set, trim_all, List.map_map]
  have : (fillC ∘ some : Cv → Cv) = id := rfl
  rw [this, List.map_id]
theorem onO_set (l : List Int) (t : List Cv) (u : Nat) : onO l (some (setF t)) u = some (setF t) := by
  unfold onO
  dsimp only
  rw [if_neg (fun h => by have := h.2; cases this), onT_set]
def nowO (o : Option Fl) : List Cv := match o with | none => [] | some y => y.now
theorem lenO_now (o : Option Fl) : lenO o = (nowO o).length := by cases o <;> rfl
theorem onO_now (l : List Int) (x : Fl) (u : Nat) : nowO (onO l (some x) u) = onT l x u := by
  unfold onO
  dsimp only
  split
  · rename_i h; exact h.1.symm
  · rfl
/-- All is settled. -/
def Settled (o : Option Fl) : Prop := o = none ∨ ∃ t, o = some (setF t)
theorem Settled.ms {o : Option Fl} (h : Settled o) : ∀ x, o = some x → x.safe.length = x.now.length := by
  rintro x rfl
  rcases h with h | ⟨t, h⟩
  · cases h
  · cases h; show (t.map some).length = _; rw [List.length_map]; rfl
theorem onO_kind (l : List Int) (o : Option Fl) (u : Nat) : onO l o u = none ∨ ∃ t, onO l o u = some (setF t) := by
  cases o with
  | none => exact .inl rfl
  | some x =>
    unfold onO
    dsimp only
    split
    · exact .inl rfl
    · exact .inr ⟨_, rfl⟩
theorem onO_len (l : List Int) {o : Option Fl} {u : Nat} (h : ∀ x, o = some x → x.safe.length = x.now.length) : lenO (onO l o u) ≤ lenO o := by
  cases o with
  | none => exact Nat.le_refl _
  | some x =>
    rw [lenO_now, onO_now]
    have := onT_len l x u
    rw [h x rfl] at this
    exact this
/-! The database: which of its sectors are as they were, whatever becomes of what waits. -/
structure MainI (p : Nat) (keys : List Int) (x : Fl) : Prop where
  le : p ≤ x.now.length
  safe : ∀ i : Nat, i < p → ∃ c, x.safe[i]? = some (some c)
  old : ∀ i : Nat, i < p → ((i : Nat) : Int) ∉ keys → x.now[i]? = (laidM p)[i]? ∧ x.safe[i]? = ((laidM p)[i]?).map some ∧ x.wait[i]? = some false
theorem laidM_at {p i : Nat} (hi : i < p) : (laidM p)[i]? = some (some (secM (i : Nat) (i : Nat))) := by
  unfold laidM
  rw [List.getElem?_map, List.getElem?_range hi]
  rfl
theorem MainI.set {p : Nat} {keys : List Int} {t : List Cv} (h1 : p ≤ t.length) (h2 : ∀ i : Nat, i < p → ((i : Nat) : Int) ∉ keys → t[i]? = (laidM p)[i]?) : MainI p keys (setF t) := by
  refine ⟨h1, fun i hi => ⟨t[i]'(by omega), ?_⟩, fun i hi hn => ⟨h2 i hi hn, ?_, ?_⟩⟩
  · show (t.map some)[i]? = _
    rw [List.getElem?_map, List.getElem?_eq_getElem (by omega)]
    rfl
  · show (t.map some)[i]? = _
    rw [List.getElem?_map, h2 i hi hn]
  · show (List.replicate t.length false)[i]? = _
    rw [List.getElem?_replicate, if_pos (by omega)]
theorem MainI.on {p : Nat} {keys : List Int} {x : Fl} (h : MainI p keys x) (l : List Int) (u : Nat) : p ≤ (onT l x u).length ∧ ∀ i : Nat, i < p → ((i : Nat) : Int) ∉ keys → (onT l x u)[i]? = (laidM p)[i]? := by
  have at' : ∀ i : Nat, i < p → ∃ c, (trimC (fates l x.now x.safe x.wait u).1)[i]? = some (some c) := fun i hi => by
    obtain ⟨c, hc⟩ := fates_some l (ns := x.now) (ws := x.wait) (u := u) (h.safe i hi)
    exact ⟨c, trimP_at hc⟩
  refine ⟨?_, fun i hi hn => ?_⟩
  · rcases Nat.eq_zero_or_pos p with h0 | h0
    · omega
    · obtain ⟨c, hc⟩ := at' (p - 1) (by omega)
      obtain ⟨hlt, _⟩ := List.getElem?_eq_some_iff.1 hc
      unfold onT
      rw [List.length_map]
      omega
  · obtain ⟨_, h2, h3⟩ := h.old i hi hn
    rw [laidM_at hi] at h2 ⊢
    have e := fates_still l (ns := x.now) (ss := x.safe) (u := u) h3
    rw [h2] at e
    have := trimP_at e
    unfold onT
    rw [List.getElem?_map, this]
    rfl
/-- The database as it was laid, and safe. -/
def HomeM (p : Nat) (m : Option Fl) : Prop := (m = none ∧ p = 0) ∨ m = some (setF (laidM p))
theorem HomeM.on {p : Nat} {m : Option Fl} (h : HomeM p m) (l : List Int) (u : Nat) : onO l m u = m := by
  rcases h with ⟨rfl, _⟩ | rfl
  · rfl
  · exact onO_set l _ u
theorem HomeM.was {p : Nat} {m : Option Fl} (h : HomeM p m) : WasM p m := by
  rcases h with ⟨rfl, h0⟩ | rfl
  · exact ⟨fun _ => rfl, fun hh => by omega⟩
  · refine ⟨fun h0 => ?_, fun _ => ⟨_, rfl, rfl⟩⟩
    show (laidM p).length = 0
    rw [laidM_len, h0]
/-- What a journal that was read so says of a database. -/
structure Cnd (p : Nat) (F : FM) (m : Option Fl) : Prop where
  pages : 0 < F.feet → F.pages = (p : Nat)
  data : ∀ q ∈ F.sure, (0 ≤ q.1 ∧ q.1 < (p : Nat)) ∧ q.2 = pgS 232 q.1
  no : ¬ 0 < F.feet → HomeM p m
  yes : 0 < F.feet → 0 < p → ∃ x, m = some x ∧ MainI p (pagesOf F) x
theorem Cnd.on {p : Nat} {F : FM} {m : Option Fl} (h : Cnd p F m) (l : List Int) (u : Nat) : Cnd p F (onO l m u) := by
  refine ⟨h.pages, h.data, fun hf => ?_, fun hf hp => ?_⟩
  · have := h.no hf
    rw [this.on]
    exact this
  · obtain ⟨x, rfl, hx⟩ := h.yes hf hp
    obtain ⟨h1, h2⟩ := hx.on l u
    refine ⟨setF (onT l x u), ?_, MainI.set h1 h2⟩
    unfold onO
    dsimp only
    rw [if_neg]
    rintro ⟨e, _⟩
    rw [e] at h1
    simp at h1
    omega
/-- A journal's file: the first sectors safe, those behind wait. -/
structure YF (y : Fl) (s : Nat) : Prop where
  safe : y.safe = (y.now.take s).map some ++ List.replicate (y.now.length - s) none
  wait : y.wait = List.replicate s false ++ List.replicate (y.now.length - s) true
structure PIs (p : Nat) (m j : Option Fl) (s c : Nat) : Prop where
  yf : ∀ y, j = some y → YF y s
  sl : s ≤ (nowO j).length
  cnd : ∀ k, s ≤ k → k ≤ (nowO j).length → Cnd p (rdC ((nowO j).take k) fm0 true) m
  ml : lenO m ≤ 8 + c
  jl : lenO j ≤ c
  ms : ∀ x, m = some x → x.safe.length = x.now.length
theorem PIs.mono {p : Nat} {m j : Option Fl} {s c c' : Nat} (h : PIs p m j s c) (hc : c ≤ c') : PIs p m j s c' := ⟨h.yf, h.sl, h.cnd, by have := h.ml; omega, by have := h.jl; omega, h.ms⟩
theorem YF.set (t : List Cv) : YF (setF t) t.length := ⟨by unfold setF; simp, by unfold setF; simp⟩
theorem YF.sync (y : Fl) : YF (syncF y) y.now.length := YF.set y.now
theorem PIs.on {p : Nat} {m j : Option Fl} {s c : Nat} (h : PIs p m j s c) (l : List Int) (u v : Nat) : PIs p (onO l m u) (onO l j v) (nowO (onO l j v)).length c := by
  have hcnd : Cnd p (rdC (nowO (onO l j v)) fm0 true) (onO l m u) := by
    cases j with
    | none =>
      have := h.cnd 0 (by have := h.sl; exact this) (Nat.zero_le _)
      exact this.on l u
    | some y =>
      rw [onO_now]
      have hy := h.yf y rfl
      have hz := fz_fates l y.now s v h.sl
      rw [← hy.safe, ← hy.wait] at hz
      obtain ⟨k, h1, h2, h3⟩ := rd_fz fm0 true hz
      have := h.cnd k h1 h2
      unfold onT
      rw [h3]
      exact this.on l u
  have hjl : lenO (onO l j v) ≤ lenO j := by
    refine onO_len l fun y hy => ?_
    have hs := h.sl
    rw [(h.yf y hy).safe, List.length_append, List.length_map, List.length_take, List.length_replicate]
    subst hy
    have : s ≤ y.now.length := hs
    omega
  refine ⟨fun y hy => ?_, Nat.le_refl _, fun k h1 h2 => ?_, Nat.le_trans (onO_len l h.ms) h.ml, Nat.le_trans hjl h.jl, (Settled.ms (onO_kind l m u))⟩
  · rcases onO_kind l j v with e | ⟨t, e⟩
    · rw [e] at hy; cases hy
    · rw [e] at hy ⊢
      cases hy
      exact YF.set t
  · rw [List.take_of_length_le h1]
    exact hcnd
/-! The power goes, or nothing is armed. -/
structure K2 (k : Dk) : Prop where
  kind : k.kind = 2 ∨ k.at' = 0
  room : k.room = 16384
def Up (k : Dk) : Prop := k.down = false ∧ k.at' = 0
theorem beg2 {k : Dk} (h : K2 k) {s : ByteArray} (hs : goodName s = true) : ∃ k', K2 k' ∧ ((begS k s true = (0, k') ∧ (Up k → Up k')) ∨ (begS k s true = (10, k') ∧ ¬ Up k)) := by
  unfold begS
  rw [if_neg (by rw [hs]; simp)]
  split
  · rename_i hd
    exact ⟨k, h, .inr ⟨rfl, fun hu => by rw [hu.1] at hd; cases hd⟩⟩
  · rename_i hd
    split
    · rename_i ha
      exact ⟨{ k with ops := k.ops + 1 }, ⟨.inr ha, h.room⟩, .inl ⟨rfl, fun hu => hu⟩⟩
    · rename_i ha
      have hk : k.kind = 2 := h.kind.resolve_right ha
      split
      · exact ⟨{ k with ops := k.ops + 1, at' := k.at' - 1 }, ⟨.inl hk, h.room⟩, .inl ⟨rfl, fun hu => absurd hu.2 ha⟩⟩
      · try rw [if_pos hk]
        exact ⟨{ k with ops := k.ops + 1, down := true, life := k.life + 1, at' := 0 }, ⟨.inr rfl, h.room⟩, .inr ⟨rfl, fun hu => ha hu.2⟩⟩
theorem found2 {k : Dk} (h : K2 k) {fs : Fs} {s : ByteArray} (hs : goodName s = true) : ∃ k', K2 k' ∧ (((∃ x, findF fs s = some x) ∧ foundD ⟨k, fs⟩ s true = (0, ⟨k', fs⟩) ∧ (Up k → Up k')) ∨ (findF fs s = none ∧ foundD ⟨k, fs⟩ s true = (14, ⟨k', fs⟩) ∧ (Up k → Up k')) ∨ (foundD ⟨k, fs⟩ s true = (10, ⟨k', fs⟩) ∧ ¬ Up k)) := by
  obtain ⟨k', h1, ⟨h2, h3⟩ | ⟨h2, h3⟩⟩ := beg2 h hs
  · cases hf : findF fs s with
    | none => exact ⟨k', h1, .inr (.inl ⟨rfl, by unfold foundD; dsimp only; rw [h2, hf]; rfl, h3⟩)⟩
    | some x => exact ⟨k', h1, .inl ⟨⟨x, rfl⟩, by unfold foundD; dsimp only; rw [h2, hf]; rfl, h3⟩⟩
  · exact ⟨k', h1, .inr (.inr ⟨by unfold foundD; dsimp only; rw [h2]; rfl, h3⟩)⟩
section
variable {k k' : Dk} {fs : Fs} {s d : ByteArray}
theorem writeP_err {i : Int} (h0 : foundD ⟨k, fs⟩ s true = (10, ⟨k', fs⟩)) (hi : 0 ≤ i) (hd : d.size = 256) : writeD ⟨k, fs⟩ s i d = (10, ⟨k', fs⟩) := by
  unfold writeD
  rw [right_up hi hd, h0]
  rfl
theorem syncP_err (h0 : foundD ⟨k, fs⟩ s true = (10, ⟨k', fs⟩)) : syncD ⟨k, fs⟩ s = (10, ⟨k', fs⟩) := by
  unfold syncD
  rw [h0]
  rfl
end
section
variable {k : Dk} (h : K2 k)
include h
theorem writeP_main (m j : Option Fl) {i : Nat} {d : ByteArray} (hd : d.size = 256) (hi : i ≤ lenO m) (hr : lenO m + lenO j < 16384) :
    ∃ k', K2 k' ∧ ((writeD ⟨k, fs2 m j⟩ mainN (i : Nat) d = (0, ⟨k', fs2 (some (setO m i d)) j⟩) ∧ (Up k → Up k')) ∨ (writeD ⟨k, fs2 m j⟩ mainN (i : Nat) d = (10, ⟨k', fs2 m j⟩) ∧ ¬ Up k)) := by
  obtain ⟨k', h1, h2⟩ := found2 h (fs := fs2 m j) main_good
  have hroom : ((total (fs2 m j) : Nat) : Int) < k'.room := by rw [total2, h1.room]; omega
  refine ⟨k', h1, ?_⟩
  rcases h2 with ⟨⟨x, hx⟩, h2, h3⟩ | ⟨hx, h2, h3⟩ | ⟨h2, h3⟩
  · rw [find2_main] at hx
    subst hx
    have := writeW_old (i := ((i : Nat) : Int)) h2 (find2_main _ _) (Int.natCast_nonneg _) hd (by simp only [lenO] at hi; omega) hroom
    rw [put2_main, Int.toNat_natCast] at this
    exact .inl ⟨this, h3⟩
  · rw [find2_main] at hx
    subst hx
    simp only [lenO] at hi
    obtain rfl : i = 0 := by omega
    have := writeW_new h2 (find2_main _ _) hd (by have := len2 none j; omega) hroom
    rw [put2_main] at this
    exact .inl ⟨this, h3⟩
  · exact .inr ⟨writeP_err h2 (Int.natCast_nonneg _) hd, h3⟩
theorem writeP_jn (m j : Option Fl) {d : ByteArray} (hd : d.size = 256) (hr : lenO m + lenO j < 16384) :
    ∃ k', K2 k' ∧ ((writeD ⟨k, fs2 m j⟩ jnN ((lenO j : Nat) : Int) d = (0, ⟨k', fs2 m (some (setO j (lenO j) d))⟩) ∧ (Up k → Up k')) ∨ (writeD ⟨k, fs2 m j⟩ jnN ((lenO j : Nat) : Int) d = (10, ⟨k', fs2 m j⟩) ∧ ¬ Up k)) := by
  obtain ⟨k', h1, h2⟩ := found2 h (fs := fs2 m j) jn_good
  have hroom : ((total (fs2 m j) : Nat) : Int) < k'.room := by rw [total2, h1.room]; omega
  refine ⟨k', h1, ?_⟩
  rcases h2 with ⟨⟨x, hx⟩, h2, h3⟩ | ⟨hx, h2, h3⟩ | ⟨h2, h3⟩
  · rw [find2_jn] at hx
    subst hx
    have := writeW_old (i := ((x.now.length : Nat) : Int)) h2 (find2_jn _ _) (Int.natCast_nonneg _) hd (Int.le_refl _) hroom
    rw [put2_jn, Int.toNat_natCast] at this
    exact .inl ⟨this, h3⟩
  · rw [find2_jn] at hx
    subst hx
    have := writeW_new h2 (find2_jn _ _) hd (by have := len2 m none; omega) hroom
    rw [put2_jn] at this
    exact .inl ⟨this, h3⟩
  · exact .inr ⟨writeP_err h2 (Int.natCast_nonneg _) hd, h3⟩
theorem syncP_main (x : Fl) (j : Option Fl) : ∃ k', K2 k' ∧ ((syncD ⟨k, fs2 (some x) j⟩ mainN = (0, ⟨k', fs2 (some (syncF x)) j⟩) ∧ (Up k → Up k')) ∨ (syncD ⟨k, fs2 (some x) j⟩ mainN = (10, ⟨k', fs2 (some x) j⟩) ∧ ¬ Up k)) := by
  obtain ⟨k', h1, h2⟩ := found2 h (fs := fs2 (some x) j) main_good
  refine ⟨k', h1, ?_⟩
  rcases h2 with ⟨_, h2, h3⟩ | ⟨hx, h2, h3⟩ | ⟨h2, h3⟩
  · have := syncW_old h2 (find2_main _ _)
    rw [put2_main] at this
    exact .inl ⟨this, h3⟩
  · rw [find2_main] at hx; cases hx
  · exact .inr ⟨syncP_err h2, h3⟩
theorem syncP_jn (m : Option Fl) (y : Fl) : ∃ k', K2 k' ∧ ((syncD ⟨k, fs2 m (some y)⟩ jnN = (0, ⟨k', fs2 m (some (syncF y))⟩) ∧ (Up k → Up k')) ∨ (syncD ⟨k, fs2 m (some y)⟩ jnN = (10, ⟨k', fs2 m (some y)⟩) ∧ ¬ Up k)) := by
  obtain ⟨k', h1, h2⟩ := found2 h (fs := fs2 m (some y)) jn_good
  refine ⟨k', h1, ?_⟩
  rcases h2 with ⟨_, h2, h3⟩ | ⟨hx, h2, h3⟩ | ⟨h2, h3⟩
  · have := syncW_old h2 (find2_jn _ _)
    rw [put2_jn] at this
    exact .inl ⟨this, h3⟩
  · rw [find2_jn] at hx; cases hx
  · exact .inr ⟨syncP_err h2, h3⟩
theorem cutP_main (x : Fl) (j : Option Fl) {n : Nat} (hn : n ≤ x.now.length) : ∃ k', K2 k' ∧ ((cutD ⟨k, fs2 (some x) j⟩ mainN (n : Nat) = (0, ⟨k', fs2 (some (cutF x n)) j⟩) ∧ (Up k → Up k')) ∨ (cutD ⟨k, fs2 (some x) j⟩ mainN (n : Nat) = (10, ⟨k', fs2 (some x) j⟩) ∧ ¬ Up k)) := by
  obtain ⟨k', h1, h2⟩ := found2 h (fs := fs2 (some x) j) main_good
  refine ⟨k', h1, ?_⟩
  unfold cutD
  rw [decide_eq_true (Int.natCast_nonneg n)]
  rcases h2 with ⟨_, h2, h3⟩ | ⟨hx, h2, h3⟩ | ⟨h2, h3⟩
  · refine .inl ⟨?_, h3⟩
    rw [h2, find2_main]
    dsimp only [Option.getD_some]
    rw [if_neg (by simp), if_neg (by omega), put2_main, Int.toNat_natCast]
  · rw [find2_main] at hx; cases hx
  · refine .inr ⟨?_, h3⟩
    rw [h2]
    rfl
theorem dropP_jn (m : Option Fl) (y : Fl) : ∃ k', K2 k' ∧ ((dropD ⟨k, fs2 m (some y)⟩ jnN = (0, ⟨k', fs2 m none⟩) ∧ (Up k → Up k')) ∨ (dropD ⟨k, fs2 m (some y)⟩ jnN = (10, ⟨k', fs2 m (some y)⟩) ∧ ¬ Up k)) := by
  obtain ⟨k', h1, h2⟩ := found2 h (fs := fs2 m (some y)) jn_good
  refine ⟨k', h1, ?_⟩
  unfold dropD
  rcases h2 with ⟨_, h2, h3⟩ | ⟨hx, h2, h3⟩ | ⟨h2, h3⟩
  · refine .inl ⟨?_, h3⟩
    rw [h2]
    dsimp only
    rw [del2_jn]
    rfl
  · rw [find2_jn] at hx; cases hx
  · refine .inr ⟨?_, h3⟩
    rw [h2]
    rfl
theorem layP (m j : Option Fl) {kind number : Int} {d : ByteArray} (hk : 0 ≤ kind ∧ kind < 4294967296) (hn : 0 ≤ number ∧ number < 4294967296) (hd : d.size = 232) (hr : lenO m + lenO j < 16384) :
    ∃ k', K2 k' ∧ ((layD 99 ⟨k, fs2 m j⟩ kind number d = (0, ⟨k', fs2 m (some (setO j (lenO j) (closeS kind number 99 d)))⟩)) ∨ (layD 99 ⟨k, fs2 m j⟩ kind number d = (10, ⟨k', fs2 m j⟩))) := by
  obtain ⟨c1, c2⟩ := closed_ok (s := Int.toNat 99) hk hn hd
  unfold layD
  rw [if_pos c1, size2_jn, max_siz]
  obtain ⟨k', h1, ⟨h2, _⟩ | ⟨h2, _⟩⟩ := writeP_jn h m j c2 hr
  · exact ⟨k', h1, .inl h2⟩
  · exact ⟨k', h1, .inr h2⟩
end
/-! A journal under way. -/
structure WayP (p : Nat) (J : JM) (m j : Option Fl) (F : FM) (s c : Nat) : Prop where
  pi : PIs p m j s c
  run : RunO j F
  pages : F.pages = if F.feet = 0 then 0 else (p : Nat)
  feet : 0 ≤ F.feet
  salt : j ≠ none → F.salt = 99
  data : ∀ q ∈ F.sure ++ F.loose, (0 ≤ q.1 ∧ q.1 < (p : Nat)) ∧ q.2 = pgS 232 q.1
  ll : F.loose.length ≤ c
  jp : J.pages = (p : Nat)
  js : J.salt = 99
  jf : J.feet = F.feet
  jn : J.noted = (F.sure ++ F.loose).map fun q => q.1
  jl : J.loose = (F.loose.length : Nat)
  syn : 0 < F.feet → F.loose = [] → s = (nowO j).length
theorem runO_rd {j : Option Fl} {F : FM} (h : RunO j F) : rdC (nowO j) fm0 true = F := by
  cases j with
  | none => exact (show F = fm0 from h).symm
  | some y => exact rd_run h.2
section
variable {p : Nat} {J : JM} {m j : Option Fl} {F : FM} {s c : Nat} {k : Dk}
theorem WayP.mono (h : WayP p J m j F s c) {c' : Nat} (hc : c ≤ c') : WayP p J m j F s c' := ⟨h.pi.mono hc, h.run, h.pages, h.feet, h.salt, h.data, by have := h.ll; omega, h.jp, h.js, h.jf, h.jn, h.jl, h.syn⟩
theorem WayP.cnd (h : WayP p J m j F s c) : Cnd p F m := by
  have := h.pi.cnd _ h.pi.sl (Nat.le_refl _)
  rw [List.take_length, runO_rd h.run] at this
  exact this
theorem saltP (h : WayP p J m j F s c) : decide (j = none) = true ∨ (99 : Int) = F.salt := by
  cases j with
  | none => exact .inl (decide_eq_true rfl)
  | some y => exact .inr (h.salt (by simp)).symm
theorem setO_end (j : Option Fl) (d : ByteArray) : (setO j (lenO j) d).now = nowO j ++ [some d] := by
  cases j with
  | none => rfl
  | some y =>
    show (writeF y y.now.length d).now = _
    unfold writeF
    rw [if_pos rfl]
    rfl
theorem YF.lay (h : ∀ y, j = some y → YF y s) (hs : s ≤ (nowO j).length) (d : ByteArray) : YF (setO j (lenO j) d) s := by
  cases j with
  | none =>
    obtain rfl : s = 0 := Nat.le_zero.1 hs
    exact ⟨rfl, rfl⟩
  | some y =>
    obtain ⟨h1, h2⟩ := h y rfl
    have hs' : s ≤ y.now.length := hs
    have e : setO (some y) (lenO (some y)) d = { y with now := y.now ++ [some d], safe := y.safe ++ [none], wait := y.wait ++ [true] } := by
      show writeF y y.now.length d = _
      unfold writeF
      rw [if_pos rfl]
    have hn : (y.now ++ [some d]).length - s = (y.now.length - s) + 1 := by rw [List.length_append, List.length_singleton]; omega
    rw [e]
    refine ⟨?_, ?_⟩
    · dsimp only
      rw [hn, List.replicate_succ', h1, List.take_append_of_le_length hs', List.append_assoc]
    · dsimp only
      rw [hn, List.replicate_succ', h2, List.append_assoc]
/-- A sector more in the journal. -/
theorem PIs.lay (h : PIs p m j s c) {d : ByteArray} {F' : FM} (hrun : RunO (some (setO j (lenO j) d)) F') (hc : Cnd p F' m) : PIs p m (some (setO j (lenO j) d)) s (c + 1) := by
  have hnow := setO_end j d
  have hjl := h.jl
  rw [lenO_now] at hjl
  have hlen : (nowO (some (setO j (lenO j) d))).length = (nowO j).length + 1 := by
    show (setO j (lenO j) d).now.length = _
    rw [hnow, List.length_append, List.length_singleton]
  have hsl := h.sl
  refine ⟨fun y hy => ?_, by omega, fun i h1 h2 => ?_, by have := h.ml; omega, by rw [lenO_now]; omega, h.ms⟩
  · cases hy
    exact YF.lay h.yf h.sl d
  · rcases Nat.lt_or_ge (nowO j).length i with hi | hi
    · rw [List.take_of_length_le (by omega), runO_rd hrun]
      exact hc
    · have e : (nowO (some (setO j (lenO j) d))).take i = (nowO j).take i := by
        show (setO j (lenO j) d).now.take i = _
        rw [hnow, List.take_append_of_le_length hi]
      rw [e]
      exact h.cnd i h1 hi
theorem PIs.sync {y : Fl} (h : PIs p m (some y) s c) : PIs p m (some (syncF y)) y.now.length c :=
  ⟨fun z hz => by cases hz; exact YF.sync y, Nat.le_refl _, fun i h1 h2 => h.cnd i (by have := h.sl; exact Nat.le_trans this h1) h2, h.ml, h.jl, h.ms⟩
theorem note2 (h : WayP p J m j F s c) (hk : K2 k) (hp : p < 9) (hc : c ≤ 1000) {q : Int} (hq : 0 ≤ q ∧ q < (p : Nat)) :
    ∃ e J' k' j' F', noteJ J ⟨k, fs2 m j⟩ q (pgS 232 q) = (e, J', ⟨k', fs2 m j'⟩) ∧ K2 k' ∧ PIs p m j' s (c + 1) ∧ (e = 0 → WayP p J' m j' F' s (c + 1) ∧ q ∈ J'.noted) := by
  have hno : ¬ (q < 0 ∨ J.pages ≤ q ∨ (pgS 232 q).size ≠ 232) := by rw [h.jp, pgS_size]; omega
  unfold noteJ
  rw [if_neg hno]
  by_cases hm : q ∈ J.noted
  · rw [if_pos hm]
    exact ⟨0, J, k, j, F, rfl, hk, h.pi.mono (Nat.le_succ c), fun _ => ⟨h.mono (Nat.le_succ c), hm⟩⟩
  · rw [if_neg hm, h.js]
    have hlm := h.pi.ml
    have hlj := h.pi.jl
    obtain ⟨k', hk', e | e⟩ := layP hk m j (kind := 2) (number := q) (d := pgS 232 q) (by decide) (by omega) (pgS_size _ _) (by omega)
    · rw [e]
      obtain ⟨s1, s2, s3⟩ := step_rec (F := F) (n := q) (salt := 99) (d := pgS 232 q) (b := decide (j = none)) ⟨hq.1, by omega⟩ (pgS_size _ _) ⟨by decide, by decide⟩ (saltP h)
      have hrun := runO_lay h.run h.salt s3
      have hcn := h.cnd
      have hP := h.pi.lay hrun (F' := { F with salt := 99, loose := F.loose ++ [(q, pgS 232 q)] }) ⟨hcn.pages, hcn.data, hcn.no, hcn.yes⟩
      refine ⟨0, ⟨J.pages, 99, J.noted ++ [q], J.loose + 1, J.feet⟩, k', _, _, rfl, hk', hP, fun _ => ⟨⟨hP, hrun, h.pages, h.feet, fun _ => rfl, ?_, ?_, h.jp, rfl, h.jf, ?_, ?_, ?_⟩, by simp⟩⟩
      · intro r hr
        dsimp only at hr
        rw [← List.append_assoc] at hr
        rcases List.mem_append.1 hr with hr | hr
        · exact h.data r hr
        · rcases List.mem_singleton.1 hr with rfl
          exact ⟨hq, rfl⟩
      · have := h.ll
        dsimp only
        rw [List.length_append, List.length_singleton]
        omega
      · show J.noted ++ [q] = (F.sure ++ (F.loose ++ [(q, pgS 232 q)])).map fun q => q.1
        rw [h.jn]
        simp
      · show J.loose + 1 = _
        rw [h.jl, List.length_append, List.length_singleton]
        omega
      · intro _ hl
        exact absurd hl (by simp)
    · rw [e]
      exact ⟨10, J, k', j, F, rfl, hk', h.pi.mono (Nat.le_succ c), fun hh => by cases hh⟩
theorem seal2 (h : WayP p J m j F s c) (hk : K2 k) (hp : p < 9) (hc : c ≤ 1000) :
    ∃ e J' k' j' F' s', sealJ J ⟨k, fs2 m j⟩ = (e, J', ⟨k', fs2 m j'⟩) ∧ K2 k' ∧ PIs p m j' s' (c + 1) ∧ (e = 0 → WayP p J' m j' F' s' (c + 1) ∧ F'.loose = [] ∧ 0 < F'.feet ∧ J'.noted = J.noted) := by
  have hP := h.pi.mono (Nat.le_succ c)
  unfold sealJ
  by_cases hz : 0 < J.feet ∧ J.loose = 0
  · rw [if_pos hz]
    have hl : F.loose = [] := List.eq_nil_of_length_eq_zero (by have := hz.2; rw [h.jl] at this; omega)
    exact ⟨0, J, k, j, F, s, rfl, hk, hP, fun _ => ⟨h.mono (Nat.le_succ c), hl, by rw [← h.jf]; exact hz.1, rfl⟩⟩
  · rw [if_neg hz]
    have hlm := h.pi.ml
    have hlj := h.pi.jl
    have hpre : ∃ k1 j1 s1, K2 k1 ∧ (presyncJ J ⟨k, fs2 m j⟩ = (0, ⟨k1, fs2 m j1⟩) ∨ (presyncJ J ⟨k, fs2 m j⟩ = (10, ⟨k1, fs2 m j1⟩))) ∧ RunO j1 F ∧ (j1 = none ↔ j = none) ∧ lenO j1 = lenO j ∧ PIs p m j1 s1 c := by
      unfold presyncJ
      split
      · rename_i hlo
        cases j with
        | none =>
          exfalso
          have : F = fm0 := h.run
          rw [h.jl, this] at hlo
          exact absurd hlo (by decide)
        | some y =>
          obtain ⟨k1, hk1, ⟨e, _⟩ | ⟨e, _⟩⟩ := syncP_jn hk m y
          · exact ⟨k1, some (syncF y), _, hk1, .inl e, h.run, by simp, rfl, h.pi.sync⟩
          · exact ⟨k1, some y, s, hk1, .inr e, h.run, by simp, rfl, h.pi⟩
      · exact ⟨k, j, s, hk, .inl rfl, h.run, Iff.rfl, rfl, h.pi⟩
    obtain ⟨k1, j1, s1, hk1, hpe, hrun1, hj1, hl1, hP1⟩ := hpre
    have hsalt1 : j1 ≠ none → F.salt = 99 := fun hh => h.salt fun e => hh (hj1.2 e)
    have hsp : decide (j1 = none) = true ∨ (99 : Int) = F.salt := by
      rcases Classical.em (j1 = none) with e | e
      · exact .inl (decide_eq_true e)
      · exact .inr (hsalt1 e).symm
    rcases hpe with hpe | hpe
    · rw [hpe]
      dsimp only
      rw [if_neg (by simp), h.js]
      have hll := h.ll
      have hft : footS J.pages J.feet = footS (p : Nat) F.feet := by rw [h.jp, h.jf]
      rw [hft, h.jl]
      obtain ⟨k2, hk2, e | e⟩ := layP hk1 m j1 (kind := 3) (number := (F.loose.length : Nat)) (d := footS (p : Nat) F.feet) (by decide) (by omega) (footS_size _ _) (by omega)
      · rw [e]
        dsimp only
        rw [if_neg (by simp)]
        obtain ⟨t1, t2, t3⟩ := step_foot (F := F) (p := (p : Nat)) (salt := 99) (b := decide (j1 = none)) (by omega) (by
          rw [h.pages]
          by_cases h0 : F.feet = 0
          · exact .inl h0
          · rw [if_neg h0]; exact .inr rfl) (by omega) ⟨by decide, by decide⟩ hsp (fun q hq => (h.data q (List.mem_append_right _ hq)).1.2)
        have hrun := runO_lay hrun1 hsalt1 t3
        have hfe := h.feet
        have hcn := h.cnd
        have hC2 : Cnd p ⟨(p : Nat), F.feet + 1, 99, F.sure ++ F.loose, []⟩ m := by
          refine ⟨fun _ => rfl, h.data, fun hh => absurd (show 0 < F.feet + 1 by omega) hh, fun _ hp0 => ?_⟩
          rcases Classical.em (0 < F.feet) with hf | hf
          · obtain ⟨x, hx, hm⟩ := hcn.yes hf hp0
            refine ⟨x, hx, hm.le, hm.safe, fun i hi hn => hm.old i hi fun hh => hn ?_⟩
            show _ ∈ (F.sure ++ F.loose).map _
            rw [List.map_append]
            exact List.mem_append_left _ hh
          · rcases hcn.no hf with ⟨_, h0⟩ | hm
            · omega
            · exact ⟨_, hm, MainI.set (by rw [laidM_len]; exact Nat.le_refl _) (fun _ _ _ => rfl)⟩
        have hPl := hP1.lay hrun hC2
        obtain ⟨k3, hk3, ⟨e3, _⟩ | ⟨e3, _⟩⟩ := syncP_jn hk2 m (setO j1 (lenO j1) (closeS 3 (F.loose.length : Nat) 99 (footS (p : Nat) F.feet)))
        · rw [e3]
          dsimp only
          rw [if_neg (by simp)]
          have hP3 := hPl.sync
          refine ⟨0, _, k3, _, ⟨(p : Nat), F.feet + 1, 99, F.sure ++ F.loose, []⟩, _, rfl, hk3, hP3, fun _ => ⟨⟨hP3, runO_sync hrun, ?_, by show 0 ≤ F.feet + 1; omega, fun _ => rfl, fun r hr => ?_, Nat.zero_le _, h.jp, rfl, by show J.feet + 1 = _; rw [h.jf], by show J.noted = _; rw [h.jn, List.append_nil], rfl, fun _ _ => rfl⟩, rfl, by show 0 < F.feet + 1; omega, rfl⟩⟩
          · dsimp only; rw [if_neg (by omega)]
          · dsimp only at hr
            rw [List.append_nil] at hr
            exact h.data r hr
        · rw [e3]
          dsimp only
          rw [if_pos (by simp)]
          exact ⟨10, J, k3, _, F, _, rfl, hk3, hPl, fun hh => by cases hh⟩
      · rw [e]
        dsimp only
        rw [if_pos (by simp)]
        exact ⟨10, J, k2, j1, F, _, rfl, hk2, hP1.mono (Nat.le_succ c), fun hh => by cases hh⟩
    · rw [hpe]
      dsimp only
      rw [if_pos (by simp)]
      exact ⟨10, J, k1, j1, F, _, rfl, hk1, hP1.mono (Nat.le_succ c), fun hh => by cases hh⟩
/-- A sector of the database is written, its page among those that count. -/
theorem MainI.write {keys : List Int} {x : Fl} (h : MainI p keys x) {n : Nat} (hn : n ≤ x.now.length) (hl : x.safe.length = x.now.length) (hin : n < p → ((n : Nat) : Int) ∈ keys) (d : ByteArray) : MainI p keys (writeF x n d) := by
  have hle := h.le
  unfold writeF
  split
  · rename_i he
    refine ⟨?_, fun i hi => ?_, fun i hi hk => ?_⟩
    · dsimp only; rw [List.length_append]; omega
    · obtain ⟨c, hc⟩ := h.safe i hi
      exact ⟨c, by dsimp only; rw [List.getElem?_append_left (by omega)]; exact hc⟩
    · obtain ⟨h1, h2, h3⟩ := h.old i hi hk
      obtain ⟨hw, _⟩ := List.getElem?_eq_some_iff.1 h3
      exact ⟨by dsimp only; rw [List.getElem?_append_left (by omega)]; exact h1, by dsimp only; rw [List.getElem?_append_left (by omega)]; exact h2, by dsimp only; rw [List.getElem?_append_left hw]; exact h3⟩
  · rename_i he
    refine ⟨?_, h.safe, fun i hi hk => ?_⟩
    · dsimp only; rw [List.length_set]; exact hle
    · obtain ⟨h1, h2, h3⟩ := h.old i hi hk
      have hne : n ≠ i := fun e => hk (by subst e; exact hin hi)
      exact ⟨by dsimp only; rw [List.getElem?_set, if_neg hne]; exact h1, h2, by dsimp only; rw [List.getElem?_set, if_neg hne]; exact h3⟩
theorem setO_ms {o : Option Fl} (h : ∀ x, o = some x → x.safe.length = x.now.length) (n : Nat) (d : ByteArray) : (setO o n d).safe.length = (setO o n d).now.length := by
  cases o with
  | none => rfl
  | some x =>
    have := h x rfl
    show (writeF x n d).safe.length = (writeF x n d).now.length
    unfold writeF
    split
    · dsimp only; rw [List.length_append, List.length_append, this]; rfl
    · dsimp only; rw [List.length_set]; exact this
theorem Cnd.write (h : Cnd p F m) (hf : 0 < F.feet) (hms : ∀ x, m = some x → x.safe.length = x.now.length) {n : Nat} (hn : n ≤ lenO m) (hin : n < p → ((n : Nat) : Int) ∈ pagesOf F) (d : ByteArray) : Cnd p F (some (setO m n d)) := by
  refine ⟨h.pages, h.data, fun hh => absurd hf hh, fun _ hp0 => ?_⟩
  obtain ⟨x, rfl, hx⟩ := h.yes hf hp0
  exact ⟨_, rfl, hx.write hn (hms x rfl) hin d⟩
theorem main2 (h : WayP p J m j F s c) (hl : F.loose = []) (hf : 0 < F.feet) {n : Nat} (hn : n ≤ lenO m) (hs : n < p → ((n : Nat) : Int) ∈ J.noted) (d : ByteArray) :
    WayP p J (some (setO m n d)) j F s (c + 1) := by
  have hlen := setO_len m hn d
  have hlm := h.pi.ml
  have hsl := h.syn hf hl
  have hcn := h.cnd.write hf h.pi.ms hn (fun hh => by have := hs hh; rw [h.jn, hl, List.append_nil] at this; exact this) d
  refine ⟨⟨h.pi.yf, h.pi.sl, fun i h1 h2 => ?_, ?_, by have := h.pi.jl; omega, fun x hx => ?_⟩, h.run, h.pages, h.feet, h.salt, h.data, by have := h.ll; omega, h.jp, h.js, h.jf, h.jn, h.jl, h.syn⟩
  · rw [List.take_of_length_le (by omega), runO_rd h.run]
    exact hcn
  · show (setO m n d).now.length ≤ _
    omega
  · cases hx
    exact setO_ms h.pi.ms n d
theorem MainI.sync {keys : List Int} {x : Fl} (h : MainI p keys x) : MainI p keys (syncF x) := MainI.set h.le fun i hi hn => (h.old i hi hn).1
theorem mainsync2 {x : Fl} (h : WayP p J (some x) j F s c) (hl : F.loose = []) (hf : 0 < F.feet) : WayP p J (some (syncF x)) j F s c := by
  have hsl := h.syn hf hl
  have hcn := h.cnd
  refine ⟨⟨h.pi.yf, h.pi.sl, fun i h1 h2 => ?_, h.pi.ml, h.pi.jl, fun z hz => by cases hz; show (x.now.map some).length = _; rw [List.length_map]; rfl⟩, h.run, h.pages, h.feet, h.salt, h.data, h.ll, h.jp, h.js, h.jf, h.jn, h.jl, h.syn⟩
  rw [List.take_of_length_le (by omega), runO_rd h.run]
  refine ⟨hcn.pages, hcn.data, fun hh => absurd hf hh, fun _ hp0 => ?_⟩
  obtain ⟨x', hx, hm⟩ := hcn.yes hf hp0
  cases hx
  exact ⟨_, rfl, hm.sync⟩
end
/-- What is left when the power goes. -/
def LeftP (p : Nat) (D : DM) (c : Nat) : Prop := ∃ k m j s, D = ⟨k, fs2 m j⟩ ∧ K2 k ∧ PIs p m j s c
theorem LeftP.of {p : Nat} {k : Dk} {m j : Option Fl} {s c c' : Nat} (hk : K2 k) (h : PIs p m j s c) (hc : c ≤ c') : LeftP p ⟨k, fs2 m j⟩ c' := ⟨k, m, j, s, rfl, hk, h.mono hc⟩
set_option maxRecDepth 100000 in
theorem changed2 {p : Nat} (hp : p < 9) (L : List ChT) : ∀ {J : JM} {m j : Option Fl} {F : FM} {b : Bool} {s c : Nat} {k : Dk}, WayP p J m j F s c → K2 k → (b = true → F.loose = [] ∧ 0 < F.feet) → c + 3 * L.length ≤ 900 →
    LeftP p (changedL (p : Nat) L J ⟨k, fs2 m j⟩ b).2 (c + 3 * L.length) := by
  induction L with
  | nil => exact fun h hk _ _ => LeftP.of hk h.pi (by simp)
  | cons y L ih =>
    intro J m j F b s c k h hk hbs hc
    rw [List.length_cons] at hc ⊢
    obtain ⟨q, _, hq2, hq3⟩ := pick_nat y p
    -- the note
    obtain ⟨e1, J1, k1, j1, F1, ha, hk1, hC1, hW1⟩ : ∃ e1 J1 k1 j1 F1, (e1, J1, ⟨k1, fs2 m j1⟩) = noteC J ⟨k, fs2 m j⟩ (p : Nat) (q : Nat) ∧ K2 k1 ∧ PIs p m j1 s (c + 1) ∧
        (e1 = 0 → WayP p J1 m j1 F1 s (c + 1) ∧ (q < p → ((q : Nat) : Int) ∈ J1.noted) ∧ (¬ (((q : Nat) : Int) < ((p : Nat) : Int) ∧ ((q : Nat) : Int) ∉ J.noted) → F1 = F)) := by
      rcases Classical.em (((q : Nat) : Int) < ((p : Nat) : Int) ∧ ((q : Nat) : Int) ∉ J.noted) with hcq | hcq
      · obtain ⟨e, J', k', j', F', e1, hk', hC', hW'⟩ := note2 h hk hp (by omega) (q := (q : Nat)) ⟨by omega, hcq.1⟩
        exact ⟨e, J', k', j', F', by rw [noteC_yes hcq]; exact e1.symm, hk', hC', fun he => ⟨(hW' he).1, fun _ => (hW' he).2, fun hh => absurd hcq hh⟩⟩
      · refine ⟨0, J, k, j, F, noteC_no hcq, hk, h.pi.mono (by omega), fun _ => ⟨h.mono (by omega), fun hqp => ?_, fun _ => rfl⟩⟩
        exact Classical.byContradiction fun hh => hcq ⟨by omega, hh⟩
    rcases Classical.em (¬ e1 = 0) with he1 | he1
    · rw [chg1 hq3 ha he1]
      exact LeftP.of hk1 hC1 (by omega)
    replace he1 := Classical.not_not.1 he1
    obtain ⟨hW1, hin, hsame⟩ := hW1 he1
    -- the seal
    obtain ⟨e4, J4, k4, j4, F4, s4, hs, hk4, hC4, hW4⟩ : ∃ e4 J4 k4 j4 F4 s4, (e4, J4, ⟨k4, fs2 m j4⟩) = sealC J J1 ⟨k1, fs2 m j1⟩ (p : Nat) (q : Nat) b ∧ K2 k4 ∧ PIs p m j4 s4 (c + 2) ∧
        (e4 = 0 → WayP p J4 m j4 F4 s4 (c + 2) ∧ F4.loose = [] ∧ 0 < F4.feet ∧ J4.noted = J1.noted) := by
      rcases Classical.em ((((q : Nat) : Int) < ((p : Nat) : Int) ∧ ((q : Nat) : Int) ∉ J.noted) ∨ b = false) with hcq | hcq
      · obtain ⟨e, J', k', j', F', s', e1, hk', hC', hW'⟩ := seal2 hW1 hk1 hp (by omega)
        exact ⟨e, J', k', j', F', s', by rw [sealC_yes hcq]; exact e1.symm, hk', hC', hW'⟩
      · have hb : b = true := by
          cases b with
          | true => rfl
          | false => exact absurd (.inr rfl) hcq
        have hFF := hsame (fun hh => hcq (.inl hh))
        obtain ⟨hb1, hb2⟩ := hbs hb
        exact ⟨0, J1, k1, j1, F1, s, sealC_no (fun hh => hcq (.inl hh)) hb, hk1, hC1.mono (by omega), fun _ => ⟨hW1.mono (by omega), by rw [hFF]; exact hb1, by rw [hFF]; exact hb2, rfl⟩⟩
    rcases Classical.em (¬ e4 = 0) with he4 | he4
    · rw [chg2 hq3 ha he1 hs he4]
      exact LeftP.of hk4 hC4 (by omega)
    replace he4 := Classical.not_not.1 he4
    obtain ⟨hW4, hlo, hfe, hno⟩ := hW4 he4
    have fin : ∀ {J' : JM} {m' j' : Option Fl} {s' : Nat} {k' : Dk}, WayP p J' m' j' F4 s' (c + 3) → K2 k' → LeftP p (changedL (p : Nat) L J' ⟨k', fs2 m' j'⟩ true).2 (c + 3 * (L.length + 1)) := fun hW hk' => by
      obtain ⟨k2, m2, j2, s2, e, hk2, hC2⟩ := ih (b := true) hW hk' (fun _ => ⟨hlo, hfe⟩) (by omega)
      exact ⟨k2, m2, j2, s2, e, hk2, hC2.mono (by omega)⟩
    have hsz : max (sizeD ⟨k4, fs2 m j4⟩ mainN) 0 = (lenO m : Nat) := by rw [size2_main, max_siz]
    have hlm := hW4.pi.ml
    have hlj := hW4.pi.jl
    rcases Classical.em (max (sizeD ⟨k4, fs2 m j4⟩ mainN) 0 < ((q : Nat) : Int)) with hm | hm
    · rw [chg3 hq3 ha he1 hs he4 hm]
      exact fin (hW4.mono (by omega)) hk4
    · obtain ⟨k5, hk5, ⟨e5, _⟩ | ⟨e5, _⟩⟩ := writeP_main hk4 m j4 (i := q) (d := secM (q : Nat) y.2.1) (secM_size (by omega) _) (by omega) (by omega)
      · have hW5 := main2 hW4 hlo hfe (n := q) (by omega) (fun hqp => by rw [hno]; exact hin hqp) (secM (q : Nat) y.2.1)
        cases hy : y.2.2 with
        | false =>
          rw [chg7 hq3 ha he1 hs he4 hm e5.symm rfl hy]
          exact fin (hW5.mono (by omega)) hk5
        | true =>
          obtain ⟨k6, hk6, ⟨e6, _⟩ | ⟨e6, _⟩⟩ := syncP_main hk5 (setO m q (secM (q : Nat) y.2.1)) j4
          · rw [chg6 hq3 ha he1 hs he4 hm e5.symm rfl hy e6.symm rfl]
            exact fin ((mainsync2 hW5 hlo hfe).mono (by omega)) hk6
          · rw [chg5 hq3 ha he1 hs he4 hm e5.symm rfl hy e6.symm (by decide)]
            exact LeftP.of hk6 hW5.pi (by omega)
      · rw [chg4 hq3 ha he1 hs he4 hm e5.symm (by decide)]
        exact LeftP.of hk5 hW4.pi (by omega)
/-! Back, cut off or not. -/
structure QI (p : Nat) (m j : Option Fl) (c : Nat) : Prop where
  cnd : Cnd p (rdC (nowO j) fm0 true) m
  ml : lenO m ≤ 8 + c
  jl : lenO j ≤ c
  sm : Settled m
  sj : Settled j
theorem PIs.of {p : Nat} {m j : Option Fl} {c : Nat} (hc : Cnd p (rdC (nowO j) fm0 true) m) (ml : lenO m ≤ 8 + c) (jl : lenO j ≤ c) (ms : ∀ x, m = some x → x.safe.length = x.now.length) (sj : Settled j) : PIs p m j (nowO j).length c := by
  refine ⟨fun y hy => ?_, Nat.le_refl _, fun i h1 h2 => ?_, ml, jl, ms⟩
  · subst hy
    rcases sj with h | ⟨t, h⟩
    · cases h
    · cases h; exact YF.set t
  · rw [List.take_of_length_le h1]; exact hc
theorem PIs.qi {p : Nat} {m j : Option Fl} {s c : Nat} (h : PIs p m j s c) (l : List Int) (u v : Nat) : QI p (onO l m u) (onO l j v) c := by
  have h2 := h.on l u v
  have := h2.cnd _ (Nat.le_refl _) (Nat.le_refl _)
  rw [List.take_length] at this
  exact ⟨this, h2.ml, h2.jl, onO_kind l m u, onO_kind l j v⟩
theorem empty_open : openE ⟨#[]⟩ ≠ 0 := by decide +kernel
theorem empty_step (F : FM) (b : Bool) : stepF F ⟨#[]⟩ b = none := by unfold stepF; rw [if_neg empty_open]
theorem findP {m : Option Fl} {y : Fl} : ∀ (n i : Nat) {F : FM} {k : Dk}, K2 k → i + n = y.now.length →
    ∃ e F' k', findL n i F ⟨k, fs2 m (some y)⟩ = ((e, F'), ⟨k', fs2 m (some y)⟩) ∧ K2 k' ∧ (Up k → Up k' ∧ e = 0) ∧ (e = 0 → F' = rdC (y.now.drop i) F (decide (i = 0)))
  | 0, i, F, k, hk, hi => ⟨0, F, k, rfl, hk, fun hu => ⟨hu, rfl⟩, fun _ => by rw [List.drop_of_length_le (by omega)]; rfl⟩
  | n + 1, i, F, k, hk, hi => by
    have hil : i < y.now.length := by omega
    obtain ⟨k', hk', h2⟩ := found2 hk (fs := fs2 m (some y)) jn_good
    have hd : y.now.drop i = y.now[i] :: y.now.drop (i + 1) := List.drop_eq_getElem_cons hil
    have hv : readF y (i : Nat) = readC (some y.now[i]) := by
      unfold readF
      rw [if_neg (by omega), Int.toNat_natCast, List.getElem?_eq_getElem hil]
    rcases h2 with ⟨_, h2, h3⟩ | ⟨hx, _, _⟩ | ⟨h2, h3⟩
    · have hr : readD ⟨k, fs2 m (some y)⟩ jnN (i : Nat) = (readC (some y.now[i]), ⟨k', fs2 m (some y)⟩) := by
        unfold readD
        rw [h2, find2_jn]
        dsimp only [Option.getD_some]
        rw [if_neg (by simp), hv]
      rw [hd]
      have stop : stepF F (readC (some y.now[i])).1 (decide (i = 0)) = none → (¬ ((readC (some y.now[i])).2 ≠ 0 ∧ (readC (some y.now[i])).2 ≠ 13)) → findL (n + 1) i F ⟨k, fs2 m (some y)⟩ = ((0, F), ⟨k', fs2 m (some y)⟩) := fun hs he => by
        unfold findL
        dsimp only
        rw [hr]
        dsimp only
        rw [if_neg he, hs]
      cases hc : y.now[i] with
      | none =>
        rw [hc] at stop
        exact ⟨0, F, k', stop (empty_step F _) (by decide), hk', fun hu => ⟨h3 hu, rfl⟩, fun _ => rfl⟩
      | some d =>
        rw [hc] at stop hr
        cases hs : stepF F d (decide (i = 0)) with
        | none => exact ⟨0, F, k', stop hs (fun h => h.1 rfl), hk', fun hu => ⟨h3 hu, rfl⟩, fun _ => by simp only [rdC, hs]⟩
        | some F2 =>
          obtain ⟨e, F3, k3, h4, h5, h6, h7⟩ := findP (m := m) (y := y) n (i + 1) (F := F2) (k := k') hk' (by omega)
          refine ⟨e, F3, k3, ?_, h5, fun hu => h6 (h3 hu), fun he => ?_⟩
          · unfold findL
            dsimp only
            rw [hr]
            have hrd : readC (some (some d)) = (d, 0) := rfl
            rw [hrd]
            dsimp only
            rw [if_neg (by simp), hs]
            exact h4
          · have := h7 he
            rw [show decide (i + 1 = 0) = false by simp] at this
            simp only [rdC, hs]
            exact this
    · rw [find2_jn] at hx; cases hx
    · have hr : readD ⟨k, fs2 m (some y)⟩ jnN (i : Nat) = ((⟨#[]⟩, 10), ⟨k', fs2 m (some y)⟩) := by
        unfold readD
        rw [h2]
        rfl
      refine ⟨10, F, k', ?_, hk', fun hu => absurd hu h3, fun he => by cases he⟩
      unfold findL
      dsimp only
      rw [hr]
      rfl
theorem foundP {k : Dk} (h : K2 k) (m j : Option Fl) : ∃ e k', K2 k' ∧ (Up k → Up k' ∧ e = 0) ∧
    ((e ≠ 0 ∧ foundJ ⟨k, fs2 m j⟩ = ((e, 0, [], false), ⟨k', fs2 m j⟩)) ∨
      (e = 0 ∧ foundJ ⟨k, fs2 m j⟩ = ((0, (rdC (nowO j) fm0 true).pages, (rdC (nowO j) fm0 true).sure, decide (0 < (rdC (nowO j) fm0 true).feet)), ⟨k', fs2 m j⟩))) := by
  have hf : ∃ e F' k', findJ ⟨k, fs2 m j⟩ = ((e, F'), ⟨k', fs2 m j⟩) ∧ K2 k' ∧ (Up k → Up k' ∧ e = 0) ∧ (e = 0 → F' = rdC (nowO j) fm0 true) := by
    unfold findJ
    rw [size2_jn, max_siz, Int.toNat_natCast]
    cases j with
    | none => exact ⟨0, fm0, k, rfl, h, fun hu => ⟨hu, rfl⟩, fun _ => rfl⟩
    | some y =>
      obtain ⟨e, F', k', h1, h2, h3, h4⟩ := findP (m := m) (y := y) y.now.length 0 (F := fm0) h (by omega)
      exact ⟨e, F', k', h1, h2, h3, fun he => by rw [h4 he, List.drop_zero]; rfl⟩
  obtain ⟨e, F', k', h1, h2, h3, h4⟩ := hf
  refine ⟨e, k', h2, h3, ?_⟩
  unfold foundJ
  rw [h1]
  rcases Classical.em (e = 0) with he | he
  · right
    refine ⟨he, ?_⟩
    dsimp only
    rw [if_neg (fun hh => hh he), h4 he]
  · left
    refine ⟨he, ?_⟩
    dsimp only
    rw [if_pos he]
theorem gonP {k : Dk} (h : K2 k) (m j : Option Fl) : ∃ e k' j', gonJ ⟨k, fs2 m j⟩ = (e, ⟨k', fs2 m j'⟩) ∧ K2 k' ∧ (Up k → Up k' ∧ e = 0 ∧ j' = none) ∧ (j' = none ∨ j' = j) := by
  unfold gonJ
  rw [size2_jn]
  cases j with
  | none =>
    rw [if_pos (by show (-1 : Int) < 0; decide)]
    exact ⟨0, k, none, rfl, h, fun hu => ⟨hu, rfl, rfl⟩, .inl rfl⟩
  | some y =>
    rw [if_neg (by show ¬ ((y.now.length : Nat) : Int) < 0; omega)]
    obtain ⟨k', hk', ⟨e, h3⟩ | ⟨e, h3⟩⟩ := dropP_jn h m y
    · exact ⟨0, k', none, e, hk', fun hu => ⟨h3 hu, rfl, rfl⟩, .inl rfl⟩
    · exact ⟨10, k', some y, e, hk', fun hu => absurd hu h3, .inr rfl⟩
theorem writeAllP {p : Nat} (hp : p < 9) {M : List Pg} {keys : List Int} (hM : ∀ q ∈ M, (0 ≤ q.1 ∧ q.1 < (p : Nat)) ∧ q.2 = pgS 232 q.1) {j : Option Fl} (hj : lenO j ≤ 1000) (hMk : ∀ a, a ∈ M.map (fun q => q.1) → a ∈ keys) : ∀ (ks : List Int), (∀ n ∈ ks, n ∈ M.map fun q => q.1) → ∀ {x : Fl} {k : Dk},
    K2 k → MainI p keys x → x.safe.length = x.now.length → x.now.length ≤ 1000 →
    ∃ e k' x', writeAll M ks ⟨k, fs2 (some x) j⟩ = (e, ⟨k', fs2 (some x') j⟩) ∧ K2 k' ∧ (Up k → Up k' ∧ e = 0) ∧ MainI p keys x' ∧ x'.now.length = x.now.length ∧ x'.safe.length = x'.now.length ∧
      (e = 0 → ∀ i : Nat, i < p → (((i : Nat) : Int) ∈ ks → x'.now[i]? = (laidM p)[i]?) ∧ (((i : Nat) : Int) ∉ ks → x'.now[i]? = x.now[i]?))
  | [], _, x, k, h, hx, hs, _ => ⟨0, k, x, rfl, h, fun hu => ⟨hu, rfl⟩, hx, rfl, hs, fun _ i _ => ⟨fun hh => (by cases hh), fun _ => rfl⟩⟩
  | a :: ks, hks, x, k, h, hx, hs, hxl => by
    have hain := hks a List.mem_cons_self
    have ha := hM _ (lookP_mem hain)
    dsimp only at ha
    obtain ⟨⟨ha0, ha1⟩, ha2⟩ := ha
    obtain ⟨b, rfl⟩ := Int.eq_ofNat_of_zero_le ha0
    have hbp : b < p := by omega
    have hpx := hx.le
    have hc : closeE 1 (b : Nat) (lookP M (b : Nat)) = 0 := by rw [ha2]; exact (closed_ok (s := 0) (by decide) (by omega) (pgS_size _ _)).1
    have hcs : closeS 1 (b : Nat) 0 (lookP M (b : Nat)) = secM (b : Nat) (b : Nat) := by rw [ha2]; rfl
    have hx1 : (setO (some x) b (secM (b : Nat) (b : Nat))).now = x.now.set b (some (secM (b : Nat) (b : Nat))) := by
      show (writeF x b _).now = _
      unfold writeF
      rw [if_neg (by omega)]
    have hl1 : (setO (some x) b (secM (b : Nat) (b : Nat))).now.length = x.now.length := by rw [hx1, List.length_set]
    obtain ⟨k1, hk1, ⟨hw, h3⟩ | ⟨hw, h3⟩⟩ := writeP_main h (some x) j (i := b) (d := secM (b : Nat) (b : Nat)) (secM_size (by omega) _) (by show b ≤ x.now.length; omega) (by show x.now.length + lenO j < _; omega)
    · have hm1 : MainI p keys (setO (some x) b (secM (b : Nat) (b : Nat))) := hx.write (by omega) hs (fun _ => hMk _ hain) _
      have hs1 := setO_ms (o := some x) (fun z hz => by cases hz; exact hs) b (secM (b : Nat) (b : Nat))
      obtain ⟨e, k', x', e1, e2, e3, e4, e5, e6, e7⟩ := writeAllP hp hM hj hMk ks (fun m hm => hks m (List.mem_cons_of_mem _ hm)) (x := setO (some x) b (secM (b : Nat) (b : Nat))) (k := k1) hk1 hm1 hs1 (by rw [hl1]; exact hxl)
      refine ⟨e, k', x', ?_, e2, fun hu => e3 (h3 hu), e4, e5.trans hl1, e6, fun he i hi => ⟨fun hm => ?_, fun hm => ?_⟩⟩
      · unfold writeAll
        rw [if_pos hc, hcs, hw]
        dsimp only
        rw [if_pos rfl, e1]
      · by_cases hik : ((i : Nat) : Int) ∈ ks
        · exact (e7 he i hi).1 hik
        · rcases List.mem_cons.1 hm with hm | hm
          · have hib : i = b := by omega
            subst hib
            rw [(e7 he i hi).2 hik, hx1, List.getElem?_set, if_pos rfl, if_pos (by omega), laidM_at hi]
          · exact absurd hm hik
      · rw [(e7 he i hi).2 (fun hh => hm (List.mem_cons_of_mem _ hh)), hx1, List.getElem?_set, if_neg]
        intro hbi
        subst hbi
        exact hm List.mem_cons_self
    · refine ⟨10, k1, x, ?_, hk1, fun hu => absurd hu h3, hx, rfl, hs, fun he => by cases he⟩
      unfold writeAll
      rw [if_pos hc, hcs, hw]
      dsimp only
      rw [if_neg (by decide)]
theorem MainI.cut {p : Nat} {keys : List Int} {x : Fl} (h : MainI p keys x) : MainI p keys (cutF x p) := by
  have hle := h.le
  refine ⟨?_, fun i hi => ?_, fun i hi hk => ?_⟩
  · show p ≤ (x.now.take p).length
    rw [List.length_take]; omega
  · show ∃ c, (x.safe.take p)[i]? = _
    rw [List.getElem?_take, if_pos hi]
    exact h.safe i hi
  · show (x.now.take p)[i]? = _ ∧ (x.safe.take p)[i]? = _ ∧ (x.wait.take p)[i]? = _
    rw [List.getElem?_take, if_pos hi, List.getElem?_take, if_pos hi, List.getElem?_take, if_pos hi]
    exact h.old i hi hk
theorem restoreP {p : Nat} (hp : p < 9) {M : List Pg} {keys : List Int} (hM : ∀ q ∈ M, (0 ≤ q.1 ∧ q.1 < (p : Nat)) ∧ q.2 = pgS 232 q.1) {j : Option Fl} (hj : lenO j ≤ 1000) {ks : List Int} (hks : ∀ n, n ∈ ks ↔ n ∈ M.map fun q => q.1) (hMk : ∀ a, a ∈ M.map (fun q => q.1) ↔ a ∈ keys)
    {m : Option Fl} {k : Dk} (h : K2 k) (hl : lenO m ≤ 1000) (ms : ∀ x, m = some x → x.safe.length = x.now.length) (hm : (m = none ∧ p = 0) ∨ ∃ x, m = some x ∧ MainI p keys x) :
    ∃ e k' m', restoreD (p : Nat) M ks ⟨k, fs2 m j⟩ = (e, ⟨k', fs2 m' j⟩) ∧ K2 k' ∧ (Up k → Up k' ∧ e = 0) ∧ lenO m' ≤ lenO m ∧ (∀ x, m' = some x → x.safe.length = x.now.length) ∧ ((m' = none ∧ p = 0) ∨ ∃ x, m' = some x ∧ MainI p keys x) ∧ (e = 0 → HomeM p m') := by
  rcases hm with ⟨rfl, h0⟩ | ⟨x, rfl, hx⟩
  · subst h0
    have hk0 : ks = [] := by
      cases hk : ks with
      | nil => rfl
      | cons a r =>
        obtain ⟨q, hq, _⟩ := List.mem_map.1 ((hks a).1 (by rw [hk]; exact List.mem_cons_self))
        have := (hM q hq).1
        omega
    subst hk0
    refine ⟨0, k, none, ?_, h, fun hu => ⟨hu, rfl⟩, Nat.le_refl _, fun x hx => (by cases hx), .inl ⟨rfl, rfl⟩, fun _ => .inl ⟨rfl, rfl⟩⟩
    unfold restoreD
    dsimp only
    have ew : writeAll M [] ⟨k, fs2 none j⟩ = (0, ⟨k, fs2 none j⟩) := rfl
    have ec : (if ((0 : Nat) : Int) < sizO none then cutD ⟨k, fs2 none j⟩ mainN ((0 : Nat) : Int) else (0, ⟨k, fs2 none j⟩)) = (0, ⟨k, fs2 none j⟩) := if_neg (by show ¬ ((0 : Nat) : Int) < -1; omega)
    rw [ew]
    dsimp only
    rw [if_neg (by simp), size2_main, ec]
    dsimp only
    rw [if_neg (by simp), size2_main, if_pos (by show (-1 : Int) < 0; decide)]
  · have hsx := ms x rfl
    have hlx : x.now.length ≤ 1000 := hl
    obtain ⟨e1, k1, x1, w1, w2, w3, w4, w5, w6, w7⟩ := writeAllP hp hM hj (fun a ha => (hMk a).1 ha) ks (fun a ha => (hks a).1 ha) h hx hsx hlx
    have hlm : lenO (some x1) ≤ lenO (some x) := by show x1.now.length ≤ x.now.length; omega
    unfold restoreD
    dsimp only
    rw [w1]
    dsimp only
    rcases Classical.em (e1 ≠ 0) with he1 | he1
    · rw [if_pos he1]
      exact ⟨e1, k1, some x1, rfl, w2, w3, hlm, fun z hz => by cases hz; exact w6, .inr ⟨x1, rfl, w4⟩, fun he => absurd he he1⟩
    · replace he1 := Classical.not_not.1 he1
      rw [if_neg (fun hh => hh he1), size2_main]
      have ht : x1.now.take p = laidM p := List.ext_getElem? fun i => by
        rw [List.getElem?_take]
        split
        · rename_i hi
          by_cases hik : ((i : Nat) : Int) ∈ ks
          · exact (w7 he1 i hi).1 hik
          · rw [(w7 he1 i hi).2 hik]
            exact (hx.old i hi (fun hh => hik ((hks _).2 ((hMk _).2 hh)))).1
        · rw [List.getElem?_eq_none (by rw [laidM_len]; omega)]
      have hle1 := w4.le
      -- the cut
      have hc : ∃ e2 k2 x2, (if ((p : Nat) : Int) < sizO (some x1) then cutD ⟨k1, fs2 (some x1) j⟩ mainN (p : Nat) else (0, ⟨k1, fs2 (some x1) j⟩)) = (e2, ⟨k2, fs2 (some x2) j⟩) ∧ K2 k2 ∧ (Up k1 → Up k2 ∧ e2 = 0) ∧ MainI p keys x2 ∧ x2.now.length ≤ x1.now.length ∧ x2.safe.length = x2.now.length ∧ (e2 = 0 → x2.now = laidM p) := by
        split
        · rename_i hlt
          have hlt' : ((p : Nat) : Int) < ((x1.now.length : Nat) : Int) := hlt
          obtain ⟨k2, hk2, ⟨e, h3⟩ | ⟨e, h3⟩⟩ := cutP_main w2 x1 j (n := p) (by omega)
          · refine ⟨0, k2, cutF x1 p, e, hk2, fun hu => ⟨h3 hu, rfl⟩, w4.cut, ?_, ?_, fun _ => ht⟩
            · show (x1.now.take p).length ≤ _
              rw [List.length_take]; omega
            · show (x1.safe.take p).length = (x1.now.take p).length
              rw [List.length_take, List.length_take, w6]
          · exact ⟨10, k2, x1, e, hk2, fun hu => absurd hu h3, w4, Nat.le_refl _, w6, fun he => by cases he⟩
        · rename_i hlt
          have hlt' : ¬ ((p : Nat) : Int) < ((x1.now.length : Nat) : Int) := hlt
          exact ⟨0, k1, x1, rfl, w2, fun hu => ⟨hu, rfl⟩, w4, Nat.le_refl _, w6, fun _ => by rw [← ht, List.take_of_length_le (by omega)]⟩
      obtain ⟨e2, k2, x2, c1, c2, c3, c4, c5, c6, c7⟩ := hc
      rw [c1]
      dsimp only
      have hup : Up k → Up k2 ∧ e2 = 0 := fun hu => c3 (w3 hu).1
      have hl2 : lenO (some x2) ≤ lenO (some x) := Nat.le_trans c5 hlm
      rcases Classical.em (e2 ≠ 0) with he2 | he2
      · rw [if_pos he2]
        exact ⟨e2, k2, some x2, rfl, c2, hup, hl2, fun z hz => by cases hz; exact c6, .inr ⟨x2, rfl, c4⟩, fun he => absurd he he2⟩
      · replace he2 := Classical.not_not.1 he2
        rw [if_neg (fun hh => hh he2), size2_main, if_neg (by show ¬ ((x2.now.length : Nat) : Int) < 0; omega)]
        obtain ⟨k3, hk3, ⟨e, h3⟩ | ⟨e, h3⟩⟩ := syncP_main c2 x2 j
        · refine ⟨0, k3, some (syncF x2), e, hk3, fun hu => ⟨h3 (hup hu).1, rfl⟩, hl2, fun z hz => by cases hz; show (x2.now.map some).length = _; rw [List.length_map]; rfl, .inr ⟨_, rfl, c4.sync⟩, fun _ => .inr ?_⟩
          show some (setF x2.now) = _
          rw [c7 he2]
        · exact ⟨10, k3, some x2, e, hk3, fun hu => absurd (hup hu).1 h3, hl2, fun z hz => by cases hz; exact c6, .inr ⟨x2, rfl, c4⟩, fun he => by cases he⟩
/-- Back, whatever becomes of the power. -/
theorem backP {p : Nat} (hp : p < 9) {k : Dk} {m j : Option Fl} {c : Nat} (hc : c ≤ 900) (hQ : QI p m j c) (hk : K2 k) {e : Int} {D' : DM} (hb : BackR ⟨k, fs2 m j⟩ e D') :
    ∃ k' m' j' s, D' = ⟨k', fs2 m' j'⟩ ∧ K2 k' ∧ PIs p m' j' s c ∧ (Up k → Up k' ∧ e = 0 ∧ j' = none ∧ HomeM p m') := by
  obtain ⟨e1, k1, hk1, hu1, hf⟩ := foundP hk m j
  have hcn := hQ.cnd
  have hml := hQ.ml
  have hjl := hQ.jl
  have hpi := PIs.of hQ.cnd hQ.ml hQ.jl hQ.sm.ms hQ.sj
  have endj : ∀ {k2 : Dk} {m2 : Option Fl}, K2 k2 → HomeM p m2 → lenO m2 ≤ 8 + c → (∀ x, m2 = some x → x.safe.length = x.now.length) → Cnd p (rdC (nowO j) fm0 true) m2 → (e, D') = gonJ ⟨k2, fs2 m2 j⟩ → (Up k → Up k2) →
      ∃ k' m' j' s, D' = ⟨k', fs2 m' j'⟩ ∧ K2 k' ∧ PIs p m' j' s c ∧ (Up k → Up k' ∧ e = 0 ∧ j' = none ∧ HomeM p m') := fun {k2 m2} h2 hH hl2 hms hC hg hup => by
    obtain ⟨e3, k3, j3, g1, g2, g3, g4⟩ := gonP h2 m2 j
    rw [g1] at hg
    obtain ⟨rfl, rfl⟩ := Prod.mk.inj hg
    refine ⟨k3, m2, j3, (nowO j3).length, rfl, g2, ?_, fun hu => ⟨(g3 (hup hu)).1, (g3 (hup hu)).2.1, (g3 (hup hu)).2.2, hH⟩⟩
    · rcases g4 with rfl | rfl
      · exact PIs.of ⟨fun hh => absurd hh (by decide), fun q hq => (by cases hq), fun _ => hH, fun hh => absurd hh (by decide)⟩ hl2 (Nat.zero_le _) hms (.inl rfl)
      · exact PIs.of hC hl2 hQ.jl hms hQ.sj
  rcases hf with ⟨he, hf⟩ | ⟨he, hf⟩
  · unfold BackR at hb
    rw [hf] at hb
    dsimp only at hb
    rw [if_pos he] at hb
    obtain ⟨rfl, rfl⟩ := hb
    exact ⟨k1, m, j, _, rfl, hk1, hpi, fun hu => absurd (hu1 hu).2 he⟩
  · unfold BackR at hb
    rw [hf] at hb
    dsimp only at hb
    rw [if_neg (by simp)] at hb
    generalize hF : rdC (nowO j) fm0 true = F at hb hcn endj
    by_cases hft : 0 < F.feet
    · rw [if_pos (decide_eq_true hft)] at hb
      obtain ⟨ks, _, hks, hb⟩ := hb
      rw [hcn.pages hft] at hb
      have hmm : (m = none ∧ p = 0) ∨ ∃ x, m = some x ∧ MainI p (pagesOf F) x := by
        rcases Nat.eq_zero_or_pos p with h0 | h0
        · cases m with
          | none => exact .inl ⟨rfl, h0⟩
          | some x => exact .inr ⟨x, rfl, by omega, fun i hi => by omega, fun i hi => by omega⟩
        · exact .inr (hcn.yes hft h0)
      obtain ⟨e2, k2, m2, r1, r2, r3, r4, r5, r6, r7⟩ := restoreP hp (M := firstM F.sure) (keys := pagesOf F) (j := j) (m := m) (fun q hq => hcn.data q (firstM_mem hq)) (by omega) hks (fun a => firstM_keys) hk1 (by omega) hQ.sm.ms hmm
      have hC2 : Cnd p F m2 := ⟨hcn.pages, hcn.data, fun hh => absurd hft hh, fun _ hp0 => by
        rcases r6 with ⟨_, h0⟩ | h
        · omega
        · exact h⟩
      rw [r1] at hb
      dsimp only at hb
      rcases Classical.em (e2 ≠ 0) with he2 | he2
      · rw [if_pos he2] at hb
        obtain ⟨rfl, rfl⟩ := hb
        exact ⟨k2, m2, j, _, rfl, r2, PIs.of (by rw [hF]; exact hC2) (by omega) hjl r5 hQ.sj, fun hu => absurd (r3 (hu1 hu).1).2 he2⟩
      · rw [if_neg he2] at hb
        exact endj r2 (r7 (Classical.not_not.1 he2)) (by omega) r5 hC2 hb (fun hu => (r3 (hu1 hu).1).1)
    · rw [if_neg (by simpa using hft)] at hb
      exact endj hk1 (hcn.no hft) hml hQ.sm.ms hcn hb (fun hu => (hu1 hu).1)
/-! The law's calls, one behind the other. -/
/-- A disk whose power is on, all of it safe. -/
def SafeP (p : Nat) (D : DM) (c : Nat) : Prop := ∃ k m j, D = ⟨k, fs2 m j⟩ ∧ Up k ∧ K2 k ∧ QI p m j c
theorem power_start {p : Nat} {D : DM} (h : LaydR p D) (hp : p < 9) (a : Int) (L : List ChT) : LeftP p (changedD (p : Nat) L (armD D a 2 0)).2 60 ∧ sizeD (armD D a 2 0) jnN < 0 := by
  have hf := h.fs
  have hr := h.room
  obtain ⟨⟨_, down, _⟩, _, _⟩ := h
  obtain ⟨k, fs⟩ := D
  dsimp only at hf hr down
  subst hf
  obtain ⟨k', hk', e⟩ : ∃ k', K2 k' ∧ armD ⟨k, fs2 (laidF p) none⟩ a 2 0 = ⟨k', fs2 (laidF p) none⟩ := ⟨(armD ⟨k, fs2 (laidF p) none⟩ a 2 0).k, ⟨.inl rfl, hr⟩, rfl⟩
  rw [e]
  have hl : (L.take 20).length ≤ 20 := by rw [List.length_take]; omega
  have hH : HomeM p (laidF p) := by
    rcases Nat.eq_zero_or_pos p with h0 | h0
    · subst h0; exact .inl ⟨rfl, rfl⟩
    · rw [laidF_pos h0]
      refine .inr ?_
      unfold setF
      rw [laidM_len]
  have hlen : lenO (laidF p) ≤ 8 := by
    rcases Nat.eq_zero_or_pos p with h0 | h0
    · subst h0; exact Nat.zero_le _
    · rw [laidF_pos h0]; show (laidM p).length ≤ _; rw [laidM_len]; omega
  have hms : ∀ x, laidF p = some x → x.safe.length = x.now.length := fun x hx => by
    rcases Nat.eq_zero_or_pos p with h0 | h0
    · subst h0; cases hx
    · rw [laidF_pos h0] at hx; cases hx; show ((laidM p).map some).length = _; rw [List.length_map]
  have hC : PIs p (laidF p) none 0 0 := PIs.of (j := none) ⟨fun hh => absurd hh (by decide), fun q hq => (by cases hq), fun _ => hH, fun hh => absurd hh (by decide)⟩ hlen (Nat.le_refl _) hms (.inl rfl)
  refine ⟨?_, by rw [size2_jn]; show (-1 : Int) < 0; decide⟩
  obtain ⟨k2, m2, j2, s2, e2, hk2, hC2⟩ := changed2 hp (L.take 20) (J := ⟨(p : Nat), 99, [], 0, 0⟩) (b := false) (s := 0) (c := 0) (F := fm0) ⟨hC, rfl, rfl, Int.le_refl _, fun hh => absurd rfl hh, fun q hq => (by cases hq), Nat.le_refl _, rfl, rfl, rfl, rfl, rfl, fun _ _ => rfl⟩ hk' (fun hh => by cases hh) (by omega)
  exact ⟨k2, m2, j2, s2, by unfold changedD; exact e2, hk2, hC2.mono (by omega)⟩
theorem power_on {p : Nat} {D : DM} {c : Nat} (h : LeftP p D c) (F : List Int) : SafeP p (onD (offD D) F) c := by
  obtain ⟨k, m, j, s, rfl, hk, hP⟩ := h
  have hd : (offD ⟨k, fs2 m j⟩).k.down = true := by
    unfold offD
    dsimp only
    split
    · assumption
    · rfl
  have ha : (offD ⟨k, fs2 m j⟩).k.at' = 0 := by
    unfold offD
    dsimp only
    split <;> rfl
  have hr : (offD ⟨k, fs2 m j⟩).k.room = 16384 := by
    unfold offD
    dsimp only
    split <;> exact hk.room
  have hfs : (offD ⟨k, fs2 m j⟩).fs = fs2 m j := rfl
  unfold onD
  rw [if_pos hd, hfs, on_fs2]
  exact ⟨_, _, _, rfl, ⟨rfl, ha⟩, ⟨.inr ha, hr⟩, hP.qi F 0 _⟩
theorem power_back {p : Nat} (hp : p < 9) {D : DM} {c : Nat} (hc : c ≤ 900) (h : SafeP p D c) (a : Int) {e : Int} {D' : DM} (hb : BackR (armD D a 2 0) e D') : LeftP p D' c := by
  obtain ⟨k, m, j, rfl, hu, hk, hQ⟩ := h
  obtain ⟨k', hk', ea⟩ : ∃ k', K2 k' ∧ armD ⟨k, fs2 m j⟩ a 2 0 = ⟨k', fs2 m j⟩ := ⟨(armD ⟨k, fs2 m j⟩ a 2 0).k, ⟨.inl rfl, hk.room⟩, rfl⟩
  rw [ea] at hb
  obtain ⟨k2, m2, j2, s2, e2, hk2, hP, _⟩ := backP hp hc hQ hk' hb
  exact ⟨k2, m2, j2, s2, e2, hk2, hP⟩
theorem power_end {p : Nat} (hp : p < 9) {D : DM} {c : Nat} (hc : c ≤ 900) (h : SafeP p D c) {e : Int} {D' : DM} (hb : BackR (armD D 0 0 0) e D') : e = 0 ∧ ∃ k m, D' = ⟨k, fs2 m none⟩ ∧ Up k ∧ WasM p m := by
  obtain ⟨k, m, j, rfl, hu, hk, hQ⟩ := h
  obtain ⟨k', hk', hu', ea⟩ : ∃ k', K2 k' ∧ Up k' ∧ armD ⟨k, fs2 m j⟩ 0 0 0 = ⟨k', fs2 m j⟩ := ⟨(armD ⟨k, fs2 m j⟩ 0 0 0).k, ⟨.inr rfl, hk.room⟩, ⟨hu.1, rfl⟩, rfl⟩
  rw [ea] at hb
  obtain ⟨k2, m2, j2, s2, rfl, hk2, hP, hend⟩ := backP hp hc hQ hk' hb
  obtain ⟨h1, h2, rfl, h4⟩ := hend hu'
  exact ⟨h2, k2, m2, rfl, h1, h4.was⟩
theorem power_again {k : Dk} {m : Option Fl} {e : Int} {D' : DM} (hb : BackR ⟨k, fs2 m none⟩ e D') : e = 0 ∧ D' = ⟨k, fs2 m none⟩ := by
  have hz : sizeD ⟨k, fs2 m none⟩ jnN < 0 := by rw [size2_jn]; show (-1 : Int) < 0; decide
  have e0 : findJ ⟨k, fs2 m none⟩ = ((0, fm0), ⟨k, fs2 m none⟩) := by
    unfold findJ
    rw [show (max (sizeD ⟨k, fs2 m none⟩ jnN) 0).toNat = 0 by omega]
    rfl
  have hf : foundJ ⟨k, fs2 m none⟩ = ((0, 0, [], false), ⟨k, fs2 m none⟩) := by
    unfold foundJ
    rw [e0]
    rfl
  unfold BackR at hb
  rw [hf] at hb
  dsimp only at hb
  rw [if_neg (by simp), if_neg (by simp)] at hb
  unfold gonJ at hb
  rw [if_pos hz] at hb
  exact Prod.mk.inj hb
end Go.Proofs.YtncnfmpclgkogaaGreat
namespace Go.Proofs.YtncnfmpclgkogaaGreat
open Go.RowKit
set_option linter.unusedSimpArgs false
set_option linter.unusedVariables false
structure PS where
  i : Nat
  D : DM
  S : Nat → Prop
structure PSR (p : Nat) (k : PS) : Prop where
  one : 1 ≤ k.i ∧ k.i ≤ 6
  safe : SafeP p k.D 60
  ok : k.D.OkN (200 + 40010 * (k.i : Nat))
theorem siz_none : sizO none = -1 := rfl
attribute [local irreducible] numOf fixedL bytesOf strOf strEq strLt sfrom closeS closeE layD footS writeD sizeD syncD dropD readD bytesD noteJ sealJ gonJ findJ foundJ pgS newD fullS eqPg secM changedL changedD noteC sealC pickN onD offD armD fs2 syncF sizO restoreD firstM ResR BackR SafeP LeftP
theorem cvJrnBackW1 {p : Prop} (h : p := by have nw := True.intro; (repeat' (first | exact True.intro | (with_reducible exact rfl) | (with_reducible exact AbsLe.refl) | (guard_target =~ @Eq Nat _ _; first | exact rfl | omega) | (guard_target =~ List.map _ _ = []; exact rfl) | (first | (guard_target =~ @Eq (List Value) _ _; exact rfl) | exact covL_of rfl (flat_bind (f := chv) (fun _ => rfl) _) | exact covL_of rfl (flat_bind (f := pgv) (fun _ => rfl) _) | exact covL_of rfl (flat_map (fun _ => rfl) _) | first | exact covL_still rfl hvs | exact covL_still rfl (still_map (fun _ => rfl) _) | exact covL_still rfl (still_map ro_still _) | (apply covL_set <;> (try clear nw) <;> have nw := True.intro) | exact congrArg (Value.int _) (by (try dsimp only); omega)) | (exact congrArg (Value.int _) (by omega)) | (exact covL_flat (flat_map (fun _ => rfl) _)) | (exact covL_flat flat_nil) | (refine covP_all ?_; (try clear nw); have nw := True.intro) | (refine covL_each ?_; (try clear nw); have nw := True.intro) | (refine ⟨?_, ?_⟩ <;> (try clear nw) <;> have nw := True.intro) | (guard_hyp nw : True; ((conv => whnf) <;> clear nw)))); (first | done | fail)) : p := h
theorem rnJrnBackW2 {p : Prop} (h : p := by refine ⟨?_, ?_, ?_⟩; (first | apply rR_tuple | apply rR_one rfl | exact rfl); all_goals (repeat' (first | (with_reducible (first | exact relH_nil | apply rn_lst | apply rn_own | apply rn_mp | apply rn_row | apply rn_abs | exact wo_nil)) | apply wo_keep rfl | apply wo_drop rfl | exact relH_nil | exact r1_flat rfl | exact r0_flat rfl | exact rl_nil | exact wo_nil | exact bk_old rfl | exact bk_new rfl | exact bk_nil rfl | apply rl_cons | (first | exact relL_flat (flat_bind (f := chv) (fun _ => rfl) _) | exact relL_flat (flat_bind (f := pgv) (fun _ => rfl) _) | exact relL_flat (flat_map (fun _ => rfl) _) | first | exact relL_still hvs | exact relL_still (still_map (fun _ => rfl) _) | exact relL_still (still_map ro_still _) | exact relL_flat (flat_map (fun _ => rfl) _) | apply relL_set) | exact relL_flat (flat_map (fun _ => rfl) _) | exact relL_flat flat_nil | apply relL_to | apply rn_lst | apply rn_own | apply rn_mp | apply rn_row | apply relH_view rfl | apply relH_lview rfl | apply relH_fact rfl | exact r1_rig | exact r0_rig | exact r1_rigs | exact r0_rigs | apply wo_keep rfl | apply wo_drop rfl | apply r1_agg | apply rn_ptr | apply rn_slice | apply rn_slice0 | apply rn_iface | apply rn_map | apply rn_ifacem | apply r0_map | apply r0_ifacem | apply r0_ptr | apply r0_slice | apply r0_slice0 | apply r0_iface)); (first | done | fail)) : p := h
set_option maxRecDepth 100000 in
set_option maxHeartbeats 8000000 in
theorem journalBack_c (pages : Int) (L : List ChT) (cap : Nat) (C : List Int) (capc : Nat) (F : List Int) (capf : Nat) (hpg0 : -9223372036854775808 ≤ pages ∧ pages ≤ 9223372036854775807) (hL : ∀ y ∈ L, 0 ≤ y.2.1 ∧ y.2.1 ≤ 255) (hl : L.length ≤ 4611686018427387904) (hC : C.length ≤ 4611686018427387904) (hF : F.length ≤ 4611686018427387904) :
    CallOb Tryz.prog 4 [iv pages, mslice 0 L.length cap, .agg #[mslice 1 C.length capc, mslice 2 F.length capf]] [(0, .lview (L.flatMap chv)), (1, .lview (C.map iv)), (2, .lview (F.map iv))] 3 (fun v hh m => ∃ z : Bool, z = true ∧ v = .bool z ∧ hh = [] ∧ m = 3) := by
  refine call_spec tabOk mixed Tryz.call4 Tryz.func4 rfl [] (fun z : Bool => z = true) (fun z => .bool z) (fun _ => []) (fun _ => 3) ?_ ?_
  · exact (Nat.le_of_ble_eq_true rfl)
  (repeat' ((try (conv => whnf)); first | (guard_target =~ ∃ (_ : Value), ∃ (_ : HP), ∃ (_ : HP), _; refine ⟨_, _, _, rnJrnBackW2, ?_⟩; (try (dsimp only [Nat.reduceAdd, List.cons_append, List.nil_append]))) | (guard_target =~ CallOb _ 6 _ _ _ _; refine call_q awakeJ_c [] cvJrnBackW1 (by rfl) (by rfl) (by rfl) (fun v h1 n1 hp => ?_); obtain ⟨_, rfl, rfl, rfl, rfl⟩ := hp; (try (dsimp only [Nat.reduceAdd, List.cons_append, List.nil_append]))) | (guard_target =~ ∃ r, r = IntKind.wrap .u64 _ ∧ _; refine wrap_u (fun r hr0 hr1 => ?_)) | (first | refine rem_u (d := 9) (by omega) (by omega) (fun pn hpn => ?_) | refine rem_u (d := 70) (by omega) (by omega) (fun q1 hq1 => ?_) | refine rem_u (d := 12) (by omega) (by omega) (fun q2 hq2 => ?_)) | (guard_target =~ CallOb _ 22 _ _ _ _; refine call_q (laid_c pn (by omega)) [] cvJrnBackW1 (by rfl) (by rfl) (by rfl) (fun v h1 n1 hp => ?_); obtain ⟨⟨D0, S0⟩, hL0, rfl, rfl, rfl⟩ := hp; dsimp only at hL0; have mk1 : 1 = 1 := rfl; (try (dsimp only [Nat.reduceAdd, List.cons_append, List.nil_append]))) | (guard_target =~ CallOb _ 23 _ _ _ _; guard_hyp mk1 : 1 = 1; refine call_q (arm_c S0 D0 (up_ok hL0.up.ok (by decide)) (1 + (q1 : Nat)) 2 0 (by omega)) [(0, some 4)] cvJrnBackW1 (by rfl) (by rfl) (by rfl) (fun v h1 n1 hp => ?_); clear mk1; obtain ⟨_, D1, S1, hD1, rfl, rfl, rfl⟩ := hp; obtain ⟨hf1, hf2⟩ := power_start hL0 hpn (1 + (q1 : Nat)) L; have hk1 : D1.OkN 30 := (by rw [hD1]; exact arm_okN hL0.up.ok (by decide) (by decide) (by omega)); rw [← hD1] at hf1 hf2; (try (dsimp only [Nat.reduceAdd, List.cons_append, List.nil_append]))) | (guard_target =~ CallOb _ 24 _ _ _ _; refine call_q (changed_c pn hpn S1 D1 hk1 (by decide) hf2 L cap hL hl) [(0, some 4), (1, some 0)] cvJrnBackW1 (by rfl) (by rfl) (by rfl) (fun v h1 n1 hp => ?_); obtain ⟨⟨ec, D2, S2⟩, hc, rfl, rfl, rfl⟩ := hp; dsimp only at hc; have hk2 := changedD_okN (pn : Nat) L hk1; rw [← hc] at hk2 hf1; dsimp only at hk2 hf1; have mk2 : 1 = 1 := rfl; (try (dsimp only [Nat.reduceAdd, List.cons_append, List.nil_append]))) | (guard_target =~ CallOb _ 25 _ _ _ _; guard_hyp mk2 : 1 = 1; refine call_q (offd_c S2 D2 (up_ok hk2 (by decide))) [(0, some 4)] cvJrnBackW1 (by rfl) (by rfl) (by rfl) (fun v h1 n1 hp => ?_); clear mk2; obtain ⟨_, D3, S3, hD3, rfl, rfl, rfl⟩ := hp; have hk3 := off_okN hk2; rw [← hD3] at hk3; have mk3 : 1 = 1 := rfl; (try (dsimp only [Nat.reduceAdd, List.cons_append, List.nil_append]))) | (guard_target =~ CallOb _ 26 _ _ _ _; guard_hyp mk3 : 1 = 1; refine call_q (on_c S3 D3 (up_ok hk3 (by decide)) F capf (by omega)) [(0, some 4), (1, some 2)] cvJrnBackW1 (by rfl) (by rfl) (by rfl) (fun v h1 n1 hp => ?_); clear mk3; obtain ⟨_, D4, S4, hD4, rfl, rfl, rfl⟩ := hp; have hk4 := on_okN hk3 F; have hs4 := power_on hf1 F; rw [← hD3, ← hD4] at hs4; rw [← hD4] at hk4; (try (dsimp only [Nat.reduceAdd, List.cons_append, List.nil_append]))) | (guard_target =~ LoopOb _ _ _ _ _ _ _ _; refine loop_rule tabOk mixed [] 5 (fun k : PS => [(0, iv (pn : Nat)), (7, mslice 1 C.length capc), (8, mslice 2 F.length capf), (9, ptr 4), (11, iv (k.i : Nat))]) (fun k => [(1, .lview (C.map iv)), (2, .lview (F.map iv)), (4, diskI k.S k.D)]) (fun k => C.length - k.i) (fun k => PSR pn k) ⟨1, D4, S4⟩ ⟨⟨Nat.le_refl 1, Nat.le_of_ble_eq_true rfl⟩, hs4, hk4.mono (by dsimp only; omega)⟩ ⟨[(4, some 4)], Sub.q cvJrnBackW1 (by rfl) (by rfl)⟩ (fun k hk => ?_)) | (guard_hyp k : PS; rcases k with ⟨i, Di, Si⟩; dsimp only at hk ⊢; have hki := hk.one; have hko := hk.ok; have hks := hk.safe; dsimp only at hki hko hks; have mk6 : 1 = 1 := rfl) | (guard_target =~ CallOb _ 23 _ _ _ _; guard_hyp mk6 : 1 = 1; guard_hyp q2 : Nat; refine call_q (arm_c Si Di (up_ok hko (by omega)) (1 + (q2 : Nat)) 2 0 (by omega)) [(0, some 4)] cvJrnBackW1 (by rfl) (by rfl) (by rfl) (fun v h1 n1 hp => ?_); clear mk6; obtain ⟨_, D5, S5, hD5, rfl, rfl, rfl⟩ := hp; have hk5 : D5.OkN (200 + 40010 * (i : Nat)) := (by rw [hD5]; exact arm_okN hko (by decide) (by decide) (by omega)); have mk7 : 1 = 1 := rfl; (try (dsimp only [Nat.reduceAdd, List.cons_append, List.nil_append]))) | (guard_target =~ CallOb _ 16 _ _ _ _; guard_hyp mk7 : 1 = 1; refine call_q (back_c restore_ob S5 D5 hk5 (by omega)) [(0, some 4)] cvJrnBackW1 (by rfl) (by rfl) (by rfl) (fun v h1 n1 hp => ?_); clear mk7; obtain ⟨⟨e6, D6, S6⟩, ⟨hb6, hk6⟩, rfl, rfl, rfl⟩ := hp; dsimp only at hb6 hk6; rw [hD5] at hb6; have hl6 := power_back hpn (by decide) hks (1 + (q2 : Nat)) hb6; have mk8 : 1 = 1 := rfl; (try (dsimp only [Nat.reduceAdd, List.cons_append, List.nil_append]))) | (guard_target =~ CallOb _ 25 _ _ _ _; guard_hyp mk8 : 1 = 1; refine call_q (offd_c S6 D6 (up_ok hk6 (by omega))) [(0, some 4)] cvJrnBackW1 (by rfl) (by rfl) (by rfl) (fun v h1 n1 hp => ?_); clear mk8; obtain ⟨_, D7, S7, hD7, rfl, rfl, rfl⟩ := hp; have hk7 := off_okN hk6; rw [← hD7] at hk7; have mk9 : 1 = 1 := rfl; (try (dsimp only [Nat.reduceAdd, List.cons_append, List.nil_append]))) | (guard_target =~ CallOb _ 26 _ _ _ _; guard_hyp mk9 : 1 = 1; refine call_q (on_c S7 D7 (up_ok hk7 (by omega)) F capf (by omega)) [(0, some 4), (1, some 2)] cvJrnBackW1 (by rfl) (by rfl) (by rfl) (fun v h1 n1 hp => ?_); clear mk9; obtain ⟨_, D8, S8, hD8, rfl, rfl, rfl⟩ := hp; have hk8 := on_okN hk7 F; have hs8 := power_on hl6 F; rw [← hD7, ← hD8] at hs8; rw [← hD8] at hk8; (try (dsimp only [Nat.reduceAdd, List.cons_append, List.nil_append]))) | (guard_target =~ CallOb _ 23 _ _ _ _; guard_hyp mk6 : 1 = 1; refine call_q (arm_c Si Di (up_ok hko (by omega)) 0 0 0 (by decide)) [(0, some 4)] cvJrnBackW1 (by rfl) (by rfl) (by rfl) (fun v h1 n1 hp => ?_); clear mk6; obtain ⟨_, D5, S5, hD5, rfl, rfl, rfl⟩ := hp; have hk5 : D5.OkN 300000 := (by rw [hD5]; exact (arm_okN hko (by decide) (by decide) (by decide)).mono (by omega)); have mk10 : 1 = 1 := rfl; (try (dsimp only [Nat.reduceAdd, List.cons_append, List.nil_append]))) | (guard_target =~ CallOb _ 16 _ _ _ _; guard_hyp mk10 : 1 = 1; refine call_q (back_c restore_ob S5 D5 hk5 (by decide)) [(0, some 4)] cvJrnBackW1 (by rfl) (by rfl) (by rfl) (fun v h1 n1 hp => ?_); clear mk10; obtain ⟨⟨e6, D6, S6⟩, ⟨hb6, hk6⟩, rfl, rfl, rfl⟩ := hp; dsimp only at hb6 hk6; rw [hD5] at hb6; obtain ⟨he6, kw, mw, hD6, hu6, hW6⟩ := power_end hpn (by decide) hks hb6; have hU6 : UpD D6 (300000 + 40000) := ⟨hk6, (by rw [hD6]; exact hu6.1), (by rw [hD6]; exact hu6.2)⟩; have mk11 : 1 = 1 := rfl; (try (dsimp only [Nat.reduceAdd, List.cons_append, List.nil_append]))) | (guard_target =~ CallOb _ 27 _ _ _ _; guard_hyp mk11 : 1 = 1; refine call_q (was_c pn hpn mw hW6 S6 D6 ⟨kw, hD6⟩ hU6 (by decide)) [(0, some 4)] cvJrnBackW1 (by rfl) (by rfl) (by rfl) (fun v h1 n1 hp => ?_); clear mk11; obtain ⟨⟨z7, D7, S7⟩, ⟨hz7, ⟨k7, hD7⟩, hU7⟩, rfl, rfl, rfl⟩ := hp; dsimp only at hz7 hD7 hU7; have mk12 : 1 = 1 := rfl; (try (dsimp only [Nat.reduceAdd, List.cons_append, List.nil_append]))) | (guard_target =~ CallOb _ 20 _ _ _ _; refine call_q (size_k S7 D7 (up_ok hU7.ok (by decide)) jnN) [(0, some 4)] cvJrnBackW1 (by rfl) (by rfl) (by rfl) (fun v h1 n1 hp => ?_); obtain ⟨sz, S7, hsz, rfl, rfl, rfl⟩ := hp; have hs8 : sz = -1 := (by rw [hsz, hD7, size2_jn, siz_none]); (try (dsimp only [Nat.reduceAdd, List.cons_append, List.nil_append]))) | (guard_target =~ CallOb _ 16 _ _ _ _; guard_hyp mk12 : 1 = 1; refine call_q (back_c restore_ob S7 D7 hU7.ok (by decide)) [(0, some 4)] cvJrnBackW1 (by rfl) (by rfl) (by rfl) (fun v h1 n1 hp => ?_); clear mk12; obtain ⟨⟨e9, D9, S9⟩, ⟨hb9, hk9⟩, rfl, rfl, rfl⟩ := hp; dsimp only at hb9 hk9; rw [hD7] at hb9; obtain ⟨he9, hD9⟩ := power_again hb9; rw [← hD7] at hD9; have hU9 : UpD D9 (300000 + 40000 + 10) := (by rw [hD9]; exact hU7); (try (dsimp only [Nat.reduceAdd, List.cons_append, List.nil_append]))) | (guard_target =~ CallOb _ 27 _ _ _ _; refine call_q (was_c pn hpn mw hW6 S9 D9 ⟨k7, hD9.trans hD7⟩ hU9 (by decide)) [(0, some 4)] cvJrnBackW1 (by rfl) (by rfl) (by rfl) (fun v h1 n1 hp => ?_); obtain ⟨⟨z10, D10, S10⟩, ⟨hz10, _, hU10⟩, rfl, rfl, rfl⟩ := hp; dsimp only at hz10 hU10; (try (dsimp only [Nat.reduceAdd, List.cons_append, List.nil_append]))) | (first | (guard_hyp k : PS; fail) | (guard_hyp mk6 : 1 = 1; refine cell_in1 (l := C) (i := i) (by omega) (fun cu hcu => ?_)) | (refine cell_in1 (l := C) (i := 0) (by omega) (fun cu hcu => ?_))) | (with_reducible refine chk_in (Nat.ble_eq_true_of_le (by omega)) ?_) | (with_reducible refine ifB_in ?_ ?_ <;> intro hb <;> (try simp only [decide_eq_true_eq, decide_eq_false_iff_not, Int.not_lt, Int.not_le, ne_eq, Decidable.not_not, Bool.not_eq_true', Bool.not_eq_false', gt_iff_lt, ge_iff_le] at hb) <;> (try (exfalso; omega))) | (with_reducible refine ⟨_, w64b _, ?_⟩) | (with_reducible refine ⟨_, w64 (by omega) (by omega), ?_⟩) | (with_reducible refine ⟨_, wu64 (by omega) (by omega), ?_⟩) | (with_reducible refine ⟨_, wu8 (by omega) (by omega), ?_⟩) | (with_reducible refine ⟨_, w64 (by (simp only [size_sfrom, ByteArray.size_extract, ByteArray.size_append, strOf_size, fixedL_length, lit_size, List.size_toArray, List.length_cons, List.length_nil, List.length_append, List.length_replicate]; omega)) (by (simp only [size_sfrom, ByteArray.size_extract, ByteArray.size_append, strOf_size, fixedL_length, lit_size, List.size_toArray, List.length_cons, List.length_nil, List.length_append, List.length_replicate]; omega)), ?_⟩) | (with_reducible refine ⟨_, rfl, ?_⟩) | (with_reducible refine ⟨rfl, ?_⟩) | (intro cap) | (with_reducible refine ⟨trivial, ?_⟩) | (guard_target =~ (planChk _ _ = true) ∧ _; refine ⟨by kernel_rfl, ?_⟩) | (guard_target =~ (_ ∧ _) ∧ _; refine ⟨by ((repeat (first | exact trivial | refine ⟨rfl, ?_⟩)); (first | done | fail)), ?_⟩) | (refine ⟨by omega, ?_⟩) | (refine ⟨by (simp only [size_sfrom, ByteArray.size_extract, ByteArray.size_append, strOf_size, fixedL_length, lit_size, List.size_toArray, List.length_cons, List.length_nil, List.length_append, List.length_replicate]; omega), ?_⟩) | (refine ⟨0, rfl, ?_⟩) | (refine ⟨1, rfl, ?_⟩) | (refine ⟨2, rfl, ?_⟩) | (refine ⟨3, rfl, ?_⟩) | (refine ⟨4, rfl, ?_⟩) | (refine ⟨5, rfl, ?_⟩) | (refine cell_at1 (by assumption) ?_) | (refine cell_in1 (by omega) (fun x hx => ?_)) | fail)) <;> (try (conv => whnf))
  all_goals first
    | (guard_hyp hs8 : SafeP pn D8 60; (refine Again.go ((⟨i + 1, D8, S8⟩ : PS)) ?_ (by (try dsimp only); omega) [(4, some 4)] (Sub.q cvJrnBackW1 (by rfl) (by rfl))); exact ⟨⟨by dsimp only; omega, by dsimp only; omega⟩, hs8, hk8.mono (by dsimp only; omega)⟩)
    | exact Bool.noConfusion (hz7.symm.trans hb)
    | (guard_hyp hz10 : z10 = true; (refine Ends.go (z10) ?_ [] (Fit.q cvJrnBackW1 (by rfl) (by rfl))); exact hz10)
    | (exfalso; omega)
    | trace_state
namespace journalBack
theorem walk (a0 : Int) (v : Value) (cap : Nat) (L : List ChT) (v2 : Value) (capc : Nat) (C : List Int) (v3 : Value) (capf : Nat) (F : List Int) (w : World) (w0 : (Lit.int .i64 a0).wf = true)
    (S : SlcAt w v L.length cap (L.flatMap (fun y : ChT => [.int .i64 (y.1), .int .u8 (y.2.1), .bool (y.2.2)]))) (hq : L.length ≤ cap) (hb : cap ≤ 140737488351232) (hw : ∀ y ∈ L, (fun y : ChT => (Lit.int .i64 (y.1)).wf = true ∧ (Lit.int .u8 (y.2.1)).wf = true) y)
    (S2 : SlcAt w v2 C.length capc (C.flatMap (fun y : Int => [.int .i64 y]))) (q2 : C.length ≤ capc) (b2 : capc ≤ 140737488351232) (w2 : ∀ y ∈ C, (fun y : Int => (Lit.int .i64 y).wf = true) y)
    (S3 : SlcAt w v3 F.length capf (F.flatMap (fun y : Int => [.int .i64 y]))) (q3 : F.length ≤ capf) (b3 : capf ≤ 140737488351232) (w3 : ∀ y ∈ F, (fun y : Int => (Lit.int .i64 y).wf = true) y) :
    Calls Tryz.prog 4 #[.int .i64 a0, v, .agg #[v2, v3]] w fun e w' => e = .returned (.bool true) ∧ Below w.heap.size w w' := by
  rw [flatMap_one] at S2 S3
  obtain ⟨m, _, H, hm, hv⟩ := (HRel.start w).see (fun i it e => by cases e) S (flat_bind (f := chv) (fun _ => rfl) L)
  obtain ⟨m2, l2, H2, hm2, hv2⟩ := H.see hm S2 (flat_map (fun _ => rfl) C)
  obtain ⟨m3, l3, H3, _, hv3⟩ := H2.see hm2 S3 (flat_map (fun _ => rfl) F)
  exact law_of (cs := [.int .i64 a0, v, .agg #[v2, v3]]) (journalBack_c a0 L cap C capc F capf (bounds_i64 w0) (fun y hy => bounds_u8 (hw y hy).2) (by omega) (by omega) (by omega)) (H3.sub_of (h' := [(0, .lview (L.flatMap chv)), (1, .lview (C.map iv)), (2, .lview (F.map iv))]) fun i it e => by
    have := lkH_mem e
    simp only [List.mem_cons, Prod.mk.injEq, List.not_mem_nil, or_false] at this
    rcases this with ⟨rfl, rfl⟩ | ⟨rfl, rfl⟩ | ⟨rfl, rfl⟩ <;> rfl) ⟨VR.same rfl, (VR.of0 rfl).2 ((hv.mono l2).mono l3), (VR.of1 rfl).2 ⟨[v2, v3], ⟨hv2.mono l3, hv3, trivial⟩, rfl⟩, trivial⟩ (fun v hh m ⟨_, hz, h, _⟩ => by rw [h, hz])
end journalBack
end Go.Proofs.YtncnfmpclgkogaaGreat
