/- The log's calls as functions (the model); what a log's file holds, wherever the power goes; what is found of it again. No program in sight. -/
import Derived.Test.YtcojbjakopkfbaaGreatDiskFs
import Derived.Test.YtcojbjakopkfbaaGreatSealWalk
namespace Go.Proofs.YtcojbjakopkfbaaGreat
open Go.RowKit
set_option linter.unusedSimpArgs false
set_option linter.unusedVariables false
/-- A text of one byte. -/
def pgS (n : Nat) (b : Int) : ByteArray := strOf (List.replicate n (UInt8.ofNat b.toNat))
theorem pgS_size (n : Nat) (b : Int) : (pgS n b).size = n := by unfold pgS; rw [strOf_size, List.length_replicate]
theorem beg_up {k : Dk} {s : ByteArray} (hs : goodName s = true) (h1 : k.down = false) (h2 : k.at' = 0) : begS k s true = (0, { k with ops := k.ops + 1 }) := by
  unfold begS
  rw [if_neg (by rw [hs]; simp), if_neg (by rw [h1]; decide), if_pos h2]
theorem beg_down {k : Dk} {s : ByteArray} (hs : goodName s = true) (h1 : k.down = true) : begS k s true = (10, k) := by
  unfold begS
  rw [if_neg (by rw [hs]; simp), if_pos h1]
theorem beg_bad {k : Dk} {s : ByteArray} {r : Bool} (hs : goodName s = false ∨ r = false) : begS k s r = (1, k) := by
  unfold begS
  rw [if_pos hs]
theorem found_up {k : Dk} {fs : Fs} {s : ByteArray} {X : Fl} (hs : goodName s = true) (h1 : k.down = false) (h2 : k.at' = 0) (hf : findF fs s = some X) : foundD ⟨k, fs⟩ s true = (0, ⟨{ k with ops := k.ops + 1 }, fs⟩) := by
  unfold foundD
  rw [beg_up hs h1 h2, hf]
  rfl
theorem found_no {k : Dk} {fs : Fs} {s : ByteArray} (hs : goodName s = true) (h1 : k.down = false) (h2 : k.at' = 0) (hf : findF fs s = none) : foundD ⟨k, fs⟩ s true = (14, ⟨{ k with ops := k.ops + 1 }, fs⟩) := by
  unfold foundD
  rw [beg_up hs h1 h2, hf]
  rfl
theorem right_up {i : Int} {d : ByteArray} (hi : 0 ≤ i) (hd : d.size = 256) : (decide (0 ≤ i) && decide (d.size = 256)) = true := by rw [decide_eq_true hi, decide_eq_true hd]; rfl
theorem write_up {k : Dk} {fs : Fs} {s d : ByteArray} {i : Int} {X : Fl} (hs : goodName s = true) (h1 : k.down = false) (h2 : k.at' = 0) (hf : findF fs s = some X) (hi : 0 ≤ i) (hd : d.size = 256) (hl : i ≤ X.now.length) (hr : i = X.now.length → (total fs : Int) < k.room) :
    writeD ⟨k, fs⟩ s i d = (0, ⟨{ k with ops := k.ops + 1 }, putF fs s (writeF X i.toNat d)⟩) := by
  unfold writeD
  rw [right_up hi hd, found_up hs h1 h2 hf, hf]
  dsimp only [Option.getD_some]
  rw [if_neg (by simp), if_neg (by omega), if_neg]
  rintro (⟨h, _⟩ | ⟨h, h'⟩)
  · cases h
  · have := hr h; omega
theorem write_new {k : Dk} {fs : Fs} {s d : ByteArray} (hs : goodName s = true) (h1 : k.down = false) (h2 : k.at' = 0) (hf : findF fs s = none) (hd : d.size = 256) (hl : fs.length < 8) (hr : (total fs : Int) < k.room) :
    writeD ⟨k, fs⟩ s 0 d = (0, ⟨{ k with ops := k.ops + 1 }, putF fs s ⟨[some d], [none], [true], false⟩⟩) := by
  unfold writeD
  rw [right_up (Int.le_refl 0) hd, found_no hs h1 h2 hf, hf]
  dsimp only [Option.getD_none]
  rw [if_neg (by simp), if_neg (show ¬ ((fl0.now.length : Int) < 0) by decide), if_neg]
  · rfl
  · rintro (⟨_, h⟩ | ⟨_, h⟩) <;> omega
theorem sync_up {k : Dk} {fs : Fs} {s : ByteArray} {X : Fl} (hs : goodName s = true) (h1 : k.down = false) (h2 : k.at' = 0) (hf : findF fs s = some X) : syncD ⟨k, fs⟩ s = (0, ⟨{ k with ops := k.ops + 1 }, putF fs s (syncF X)⟩) := by
  unfold syncD
  rw [found_up hs h1 h2 hf, hf]
  rfl
theorem read_up {k : Dk} {fs : Fs} {s : ByteArray} {X : Fl} {i : Int} (hs : goodName s = true) (h1 : k.down = false) (h2 : k.at' = 0) (hf : findF fs s = some X) : readD ⟨k, fs⟩ s i = (readF X i, ⟨{ k with ops := k.ops + 1 }, fs⟩) := by
  unfold readD
  rw [found_up hs h1 h2 hf, hf]
  rfl
theorem find_one {s : ByteArray} {X : Fl} : findF [(s, X)] s = some X := by rw [find_cons, if_pos rfl]
theorem put_one {s : ByteArray} {X Y : Fl} : putF [(s, X)] s Y = [(s, Y)] := put_cons_eq
theorem up_ok {D : DM} {n : Int} (h : D.OkN n) (hn : n ≤ 1000000) : D.Ok := h.ok (Int.lt_of_le_of_lt hn (by decide))
structure UpD (D : DM) (n : Int) : Prop where
  ok : D.OkN n
  down : D.k.down = false
  at0 : D.k.at' = 0
theorem UpD.mono {D : DM} {n m : Int} (h : UpD D n) (hn : n ≤ m) : UpD D m := ⟨h.ok.mono hn, h.down, h.at0⟩
theorem UpD.read {D : DM} {n : Int} (h : UpD D n) {s : ByteArray} (hs : goodName s = true) {x : Fl} (hx : findF D.fs s = some x) (i : Int) : readD D s i = (readF x i, (readD D s i).2) ∧ (readD D s i).2.fs = D.fs ∧ UpD (readD D s i).2 (n + 1) := by
  have h1 := read_okN h.ok s i
  obtain ⟨k, fs⟩ := D
  rw [read_up hs h.down h.at0 hx] at h1 ⊢
  exact ⟨rfl, rfl, h1, h.down, h.at0⟩
abbrev logN : ByteArray := ⟨#[108, 111, 103]⟩
theorem log_good : goodName logN = true := by decide
/-! What is laid. -/
/-- A frame: its page, the sum of its sector, whether it commits. -/
abbrev Fr := Int × Int × Bool
noncomputable def topS : ByteArray := closeS 4 1 0 (strOf (List.replicate 232 0))
def sumS (s : ByteArray) : Int := (sumAt (bytesOf s) : Nat)
theorem sumS_u (s : ByteArray) : U64 (sumS s) := by
  have := sumAt_lt (bytesOf s)
  unfold sumS U64
  omega
noncomputable def sumL (fs : List Fr) : Int := match fs.getLast? with | none => sumS topS | some f => f.2.1
/-- A frame that stands behind a sector of that sum; none: the sector is none. -/
noncomputable def rightR (c : Int) (s : ByteArray) : Option Fr := by
  classical exact if openE s = 0 ∧ ((kindAt (bytesOf s) : Nat) = 5 ∨ (kindAt (bytesOf s) : Nat) = 6) ∧ (numberAt (bytesOf s) : Nat) < 4096 ∧ ((saltAt (bytesOf s) : Nat) : Int) = c then some (((numberAt (bytesOf s) : Nat) : Int), sumS s, decide (kindAt (bytesOf s) = 6)) else none
/-- Where each page was laid last. -/
def putI : List (Int × Int) → Int → Int → List (Int × Int)
  | [], n, v => [(n, v)]
  | q :: r, n, v => if q.1 = n then (n, v) :: r else q :: putI r n v
def lastF : Nat → List (Int × Int) → List Fr → List (Int × Int)
  | _, M, [] => M
  | i, M, f :: r => lastF (i + 1) (putI M f.1 (i : Nat)) r
def lastM (fs : List Fr) : List (Int × Int) := lastF 0 [] fs
theorem lastF_snoc : ∀ (l : List Fr) (i : Nat) (M : List (Int × Int)) (f : Fr), lastF i M (l ++ [f]) = putI (lastF i M l) f.1 ((i + l.length : Nat) : Int)
  | [], i, M, f => rfl
  | g :: l, i, M, f => by
    show lastF (i + 1) (putI M g.1 (i : Nat)) (l ++ [f]) = _
    rw [lastF_snoc l (i + 1), List.length_cons, show i + 1 + l.length = i + (l.length + 1) by omega]
    rfl
theorem lastM_snoc (l : List Fr) (f : Fr) : lastM (l ++ [f]) = putI (lastM l) f.1 ((l.length : Nat) : Int) := by
  unfold lastM
  rw [lastF_snoc, Nat.zero_add]
def lookI (M : List (Int × Int)) (n : Int) : Option Int := (M.find? fun q => q.1 == n).map fun q => q.2
theorem look_put : ∀ {M : List (Int × Int)} {n v m : Int}, lookI (putI M n v) m = if m = n then some v else lookI M m
  | [], n, v, m => by
    unfold lookI putI
    by_cases h : m = n
    · subst h; simp
    · rw [if_neg h, List.find?_cons, show (n == m) = false by simpa using fun e => h e.symm]
  | q :: r, n, v, m => by
    have ih := look_put (M := r) (n := n) (v := v) (m := m)
    unfold lookI at ih ⊢
    unfold putI
    by_cases hq : q.1 = n
    · rw [if_pos hq]
      by_cases h : m = n
      · subst h; simp
      · rw [if_neg h, List.find?_cons, show (n == m) = false by simpa using fun e => h e.symm, List.find?_cons, show (q.1 == m) = false by rw [hq]; simpa using fun e => h e.symm]
    · rw [if_neg hq, List.find?_cons, List.find?_cons]
      by_cases hm : q.1 = m
      · rw [show (q.1 == m) = true by simpa using hm, if_neg (fun e => hq (hm.trans e))]
      · rw [show (q.1 == m) = false by simpa using hm]; exact ih
theorem putI_len : ∀ (M : List (Int × Int)) (n v : Int), (putI M n v).length ≤ M.length + 1
  | [], _, _ => Nat.le_refl _
  | q :: r, n, v => by
    unfold putI
    split
    · simp
    · have := putI_len r n v; simp only [List.length_cons]; omega
/-! The calls. -/
/-- Dropped from the end as long as they don't commit. -/
def trimR : List Fr → List Fr
  | [] => []
  | f :: r => match trimR r, f.2.2 with | [], false => [] | t, _ => f :: t
noncomputable def readL : Nat → Nat → List Fr → DM → (Bool × Int × List Fr) × DM
  | 0, _, fs, D => ((decide (0 < sizeD D logN), 0, fs), D)
  | m + 1, i, fs, D => by
    classical exact
    let r := readD D logN (i : Nat)
    if r.1.2 = 13 then ((decide (0 < i), 0, fs), r.2)
    else if r.1.2 ≠ 0 then ((false, r.1.2, fs), r.2)
    else if i = 0 then (if r.1.1 = topS then readL m 1 fs r.2 else ((false, 0, fs), r.2))
    else match rightR (sumL fs) r.1.1 with
      | none => ((decide (0 < sizeD r.2 logN), 0, fs), r.2)
      | some f => readL m (i + 1) (fs ++ [f]) r.2
noncomputable def openR (r : (Bool × Int × List Fr) × DM) : (Int × List Fr) × DM :=
  if r.1.2.1 ≠ 0 then ((r.1.2.1, []), r.2)
  else if r.1.1 = false then ((((dropD r.2 logN).1, []), (dropD r.2 logN).2))
  else if (1 + (trimR r.1.2.2).length : Int) < sizeD r.2 logN then
    (if (cutD r.2 logN (1 + (trimR r.1.2.2).length)).1 ≠ 0 then (((cutD r.2 logN (1 + (trimR r.1.2.2).length)).1, []), (cutD r.2 logN (1 + (trimR r.1.2.2).length)).2)
      else ((0, trimR r.1.2.2), (cutD r.2 logN (1 + (trimR r.1.2.2).length)).2))
  else ((0, trimR r.1.2.2), r.2)
noncomputable def openL (D : DM) : (Int × List Fr) × DM := if sizeD D logN < 0 then ((0, []), D) else openR (readL (sizeD D logN).toNat 0 [] D)
def kindL (commit : Bool) : Int := if commit then 6 else 5
noncomputable def addL (fs : List Fr) (D : DM) (n : Int) (data : ByteArray) (commit : Bool) : Int × List Fr × DM :=
  if n < 0 ∨ 4096 ≤ n ∨ data.size ≠ 232 then (1, fs, D)
  else
    let t := if sizeD D logN < 0 then writeD D logN 0 topS else (0, D)
    if t.1 ≠ 0 then (t.1, fs, t.2)
    else if closeE (kindL commit) n data ≠ 0 then (closeE (kindL commit) n data, fs, t.2)
    else
      let s := closeS (kindL commit) n (sumL fs).toNat data
      let w := writeD t.2 logN (1 + fs.length) s
      if w.1 ≠ 0 then (w.1, fs, w.2) else (0, fs ++ [(n, sumS s, commit)], w.2)
noncomputable def lsyncL (D : DM) : Int × DM := if sizeD D logN < 0 then (0, D) else syncD D logN
noncomputable def getL (fs : List Fr) (D : DM) (n : Int) : (ByteArray × Bool × Int) × DM :=
  match lookI (lastM fs) n with
  | none => ((⟨#[]⟩, false, 0), D)
  | some i =>
    let r := readD D logN (1 + i)
    if r.1.2 ≠ 0 then ((⟨#[]⟩, false, r.1.2), r.2) else ((r.1.1.extract 0 232, true, 0), r.2)
noncomputable def lbackL (fs : List Fr) (D : DM) (k : Int) : Int × List Fr × DM :=
  if k < 0 ∨ (fs.length : Int) < k then (1, fs, D)
  else if k = fs.length then (0, fs, D)
  else
    let c := cutD D logN (1 + k)
    if c.1 = 0 then (0, fs.take k.toNat, c.2) else (c.1, fs, c.2)
noncomputable def lendL (fs : List Fr) (D : DM) : Int × List Fr × DM :=
  if sizeD D logN < 0 then (0, [], D)
  else
    let d := dropD D logN
    if d.1 ≠ 0 then (d.1, fs, d.2) else (0, [], d.2)
/-! How many operations. -/
theorem readL_okN : ∀ (m i : Nat) (fs : List Fr) {D : DM} {n : Int}, D.OkN n → (readL m i fs D).2.OkN (n + m)
  | 0, i, fs, D, n, h => h.mono (by simp)
  | m + 1, i, fs, D, n, h => by
    have hr := read_okN h logN (i : Nat)
    unfold readL
    dsimp only
    split
    · exact hr.mono (by omega)
    · split
      · exact hr.mono (by omega)
      · split
        · split
          · exact (readL_okN m 1 fs hr).mono (by omega)
          · exact hr.mono (by omega)
        · cases rightR (sumL fs) (readD D logN (i : Nat)).1.1 with
          | none => exact hr.mono (by omega)
          | some f => exact (readL_okN m (i + 1) (fs ++ [f]) hr).mono (by omega)
theorem openL_okN {D : DM} {n : Int} (h : D.OkN n) {z : Nat} (hz : (sizeD D logN).toNat ≤ z) : (openL D).2.OkN (n + z + 1) := by
  have hr := readL_okN (sizeD D logN).toNat 0 [] h
  unfold openL
  split
  · exact h.mono (by omega)
  · generalize readL (sizeD D logN).toNat 0 [] D = r at hr ⊢
    unfold openR
    split
    · exact hr.mono (by omega)
    · split
      · exact (drop_okN hr logN).mono (by omega)
      · split
        · split
          · exact (cut_okN hr logN _).mono (by omega)
          · exact (cut_okN hr logN _).mono (by omega)
        · exact hr.mono (by omega)
theorem addL_okN {D : DM} {m : Int} (h : D.OkN m) (fs : List Fr) (n : Int) (data : ByteArray) (commit : Bool) : (addL fs D n data commit).2.2.OkN (m + 2) := by
  have ht : (if sizeD D logN < 0 then writeD D logN 0 topS else (0, D)).2.OkN (m + 1) := by
    split
    · exact write_okN h _ _ _
    · exact h.mono (by omega)
  unfold addL
  split
  · exact h.mono (by omega)
  · dsimp only
    generalize (if sizeD D logN < 0 then writeD D logN 0 topS else (0, D)) = t at ht ⊢
    split
    · exact ht.mono (by omega)
    · split
      · exact ht.mono (by omega)
      · split
        · exact (write_okN ht _ _ _).mono (by omega)
        · exact (write_okN ht _ _ _).mono (by omega)
theorem lsyncL_okN {D : DM} {m : Int} (h : D.OkN m) : (lsyncL D).2.OkN (m + 1) := by
  unfold lsyncL
  split
  · exact h.mono (by omega)
  · exact sync_okN h logN
theorem getL_okN {D : DM} {m : Int} (h : D.OkN m) (fs : List Fr) (n : Int) : (getL fs D n).2.OkN (m + 1) := by
  unfold getL
  cases lookI (lastM fs) n with
  | none => exact h.mono (by omega)
  | some i => dsimp only; split <;> exact read_okN h logN (1 + i)
theorem lbackL_okN {D : DM} {m : Int} (h : D.OkN m) (fs : List Fr) (k : Int) : (lbackL fs D k).2.2.OkN (m + 1) := by
  unfold lbackL
  split
  · exact h.mono (by omega)
  · split
    · exact h.mono (by omega)
    · dsimp only; split <;> exact cut_okN h logN _
theorem lendL_okN {D : DM} {m : Int} (h : D.OkN m) (fs : List Fr) : (lendL fs D).2.2.OkN (m + 1) := by
  unfold lendL
  split
  · exact h.mono (by omega)
  · dsimp only; split <;> exact drop_okN h logN
end Go.Proofs.YtcojbjakopkfbaaGreat
namespace Go.Proofs.YtcojbjakopkfbaaGreat
open Go.RowKit
set_option linter.unusedSimpArgs false
set_option linter.unusedVariables false
/-! Frames that are laid one behind the other. -/
/-- A page that is laid: its number, its bytes, whether it commits. -/
abbrev XL := Int × ByteArray × Bool
structure XOk (x : XL) : Prop where
  n : 0 ≤ x.1 ∧ x.1 < 4096
  d : x.2.1.size = 232
noncomputable def secX (c : Int) (x : XL) : ByteArray := closeS (kindL x.2.2) x.1 c.toNat x.2.1
noncomputable def frX (c : Int) (x : XL) : Fr := (x.1, sumS (secX c x), x.2.2)
noncomputable def layF : Int → List XL → List Fr
  | _, [] => []
  | c, x :: r => frX c x :: layF (sumS (secX c x)) r
noncomputable def layS : Int → List XL → List ByteArray
  | _, [] => []
  | c, x :: r => secX c x :: layS (sumS (secX c x)) r
noncomputable def endC : Int → List XL → Int
  | c, [] => c
  | c, x :: r => endC (sumS (secX c x)) r
theorem layF_len : ∀ (c : Int) (X : List XL), (layF c X).length = X.length
  | _, [] => rfl
  | c, x :: r => by show (layF _ r).length + 1 = _; rw [layF_len]; rfl
theorem layS_len : ∀ (c : Int) (X : List XL), (layS c X).length = X.length
  | _, [] => rfl
  | c, x :: r => by show (layS _ r).length + 1 = _; rw [layS_len]; rfl
theorem layF_snoc : ∀ (c : Int) (X : List XL) (x : XL), layF c (X ++ [x]) = layF c X ++ [frX (endC c X) x]
  | _, [], _ => rfl
  | c, y :: r, x => by show frX c y :: layF _ (r ++ [x]) = _; rw [layF_snoc]; rfl
theorem layS_snoc : ∀ (c : Int) (X : List XL) (x : XL), layS c (X ++ [x]) = layS c X ++ [secX (endC c X) x]
  | _, [], _ => rfl
  | c, y :: r, x => by show secX c y :: layS _ (r ++ [x]) = _; rw [layS_snoc]; rfl
theorem layF_take : ∀ (c : Int) (X : List XL) (k : Nat), (layF c X).take k = layF c (X.take k)
  | _, _, 0 => by rw [List.take_zero, List.take_zero]; rfl
  | _, [], _ + 1 => rfl
  | c, x :: r, k + 1 => by show frX c x :: (layF _ r).take k = _; rw [layF_take]; rfl
theorem layS_take : ∀ (c : Int) (X : List XL) (k : Nat), (layS c X).take k = layS c (X.take k)
  | _, _, 0 => by rw [List.take_zero, List.take_zero]; rfl
  | _, [], _ + 1 => rfl
  | c, x :: r, k + 1 => by show secX c x :: (layS _ r).take k = _; rw [layS_take]; rfl
theorem endC_u : ∀ {c : Int} (X : List XL), U64 c → U64 (endC c X)
  | _, [], h => h
  | _, _ :: r, _ => endC_u r (sumS_u _)
theorem layF_last : ∀ (c : Int) (X : List XL), (match (layF c X).getLast? with | none => c | some f => f.2.1) = endC c X
  | _, [] => rfl
  | c, [x] => rfl
  | c, x :: y :: r => by
    have ih := layF_last (sumS (secX c x)) (y :: r)
    show (match (frX c x :: layF (sumS (secX c x)) (y :: r)).getLast? with | none => c | some f => f.2.1) = endC (sumS (secX c x)) (y :: r)
    rw [← ih]
    have e : (frX c x :: layF (sumS (secX c x)) (y :: r)).getLast? = (layF (sumS (secX c x)) (y :: r)).getLast? := rfl
    rw [e]
    cases hl : (layF (sumS (secX c x)) (y :: r)).getLast? with
    | none => exact absurd (List.getLast?_eq_none_iff.1 hl) (by simp [layF])
    | some f => rfl
noncomputable def c0 : Int := sumS topS
theorem c0_u : U64 c0 := sumS_u _
theorem sumL_lay (X : List XL) : sumL (layF c0 X) = endC c0 X := layF_last c0 X
theorem kindL_b (b : Bool) : 0 ≤ kindL b ∧ kindL b < 4294967296 := by cases b <;> decide
theorem closed_ok {k n : Int} {s : Nat} {d : ByteArray} (hk : 0 ≤ k ∧ k < 4294967296) (hn : 0 ≤ n ∧ n < 4294967296) (hd : d.size = 232) : closeE k n d = 0 ∧ (closeS k n s d).size = 256 := by
  have hok : sealOk k n (bytesOf d) = true := sealOk_iff.2 ⟨hk, hn, by rw [bytesOf_length]; exact hd⟩
  unfold closeE closeS
  rw [if_pos hok, if_pos hok]
  exact ⟨rfl, by rw [strOf_size, sealL_length (by rw [bytesOf_length]; exact hd)]⟩
theorem sec_is {c : Int} {x : XL} (h : XOk x) (hc : U64 c) : closeE (kindL x.2.2) x.1 x.2.1 = 0 ∧ (secX c x).size = 256 ∧ rightR c (secX c x) = some (frX c x) ∧ (secX c x).extract 0 232 = x.2.1 := by
  have hn := h.n
  have hk := kindL_b x.2.2
  have hok : sealOk (kindL x.2.2) x.1 (bytesOf x.2.1) = true := sealOk_iff.2 ⟨hk, by omega, by rw [bytesOf_length]; exact h.d⟩
  have hlt : c.toNat < 18446744073709551616 := by have := hc.2; omega
  obtain ⟨h1, h2, h3, h4, h5⟩ := seal_open hok hlt
  have e : secX c x = strOf (sealL (kindL x.2.2) x.1 c.toNat (bytesOf x.2.1)) := by unfold secX closeS; rw [if_pos hok]
  have h6 := (closed_ok (s := c.toNat) hk (show 0 ≤ x.1 ∧ x.1 < 4294967296 by omega) h.d)
  refine ⟨h6.1, h6.2, ?_, ?_⟩
  · unfold rightR frX
    have hb : bytesOf (secX c x) = sealL (kindL x.2.2) x.1 c.toNat (bytesOf x.2.1) := by rw [e, bytesOf_strOf]
    have ho : openE (secX c x) = 0 := by unfold openE; rw [hb, if_pos h1]
    have hkk : (kindAt (bytesOf (secX c x)) : Int) = kindL x.2.2 := by rw [hb]; exact h3
    have hnn : (numberAt (bytesOf (secX c x)) : Int) = x.1 := by rw [hb]; exact h4
    have hss : ((saltAt (bytesOf (secX c x)) : Nat) : Int) = c := by rw [hb, h5]; have := hc.1; omega
    have hk2 : kindAt (bytesOf (secX c x)) = if x.2.2 then 6 else 5 := by
      unfold kindL at hkk
      cases hx : x.2.2 with
      | true => rw [hx] at hkk; simp only [if_true] at hkk ⊢; omega
      | false => rw [hx] at hkk; simp only [Bool.false_eq_true, if_false] at hkk ⊢; omega
    rw [if_pos ⟨ho, by rw [hk2]; cases x.2.2 <;> simp, by omega, hss⟩, hnn, hk2]
    cases x.2.2 <;> rfl
  · rw [← bytesOf_inj, bytesOf_extract, List.drop_zero, e, bytesOf_strOf, h2]
theorem top_size : topS.size = 256 := (closed_ok (s := 0) (k := 4) (n := 1) (by decide) (by decide) (by rw [strOf_size, List.length_replicate])).2
theorem zero_right (c : Int) : rightR c zero256 = none := by
  have hk : kindAt (bytesOf zero256) = 0 := by unfold kindAt zero256; rw [bytesOf_strOf]; decide +kernel
  unfold rightR
  rw [if_neg]
  rintro ⟨_, h, _⟩
  rw [hk] at h
  omega
theorem zero_top : zero256 ≠ topS := by
  intro h
  have hok : sealOk 4 1 (bytesOf (strOf (List.replicate 232 0))) = true := sealOk_iff.2 ⟨by decide, by decide, by rw [bytesOf_length, strOf_size, List.length_replicate]⟩
  obtain ⟨_, _, h3, _, _⟩ := seal_open hok (salt := 0) (by decide)
  have e : topS = strOf (sealL 4 1 0 (bytesOf (strOf (List.replicate 232 0)))) := by unfold topS closeS; rw [if_pos hok]
  have hk : kindAt (bytesOf zero256) = 0 := by unfold kindAt zero256; rw [bytesOf_strOf]; decide +kernel
  rw [h, e, bytesOf_strOf] at hk
  rw [hk] at h3
  cases h3
/-! What is read of sectors behind the top. -/
noncomputable def rdG : List Cv → Int → List Fr
  | [], _ => []
  | none :: _, _ => []
  | some d :: r, c => match rightR c d with | none => [] | some f => f :: rdG r f.2.1
theorem rd_lay : ∀ {c : Int} {X : List XL}, U64 c → (∀ x ∈ X, XOk x) → rdG ((layS c X).map some) c = layF c X
  | _, [], _, _ => rfl
  | c, x :: r, hc, hX => by
    obtain ⟨_, _, h, _⟩ := sec_is (hX x List.mem_cons_self) hc
    show (match rightR c (secX c x) with | none => [] | some f => f :: rdG ((layS (sumS (secX c x)) r).map some) f.2.1) = _
    rw [h]
    show frX c x :: rdG ((layS (sumS (secX c x)) r).map some) (sumS (secX c x)) = _
    rw [rd_lay (sumS_u _) fun y hy => hX y (List.mem_cons_of_mem _ hy)]
    rfl
theorem rd_take {c : Int} {X : List XL} (hc : U64 c) (hX : ∀ x ∈ X, XOk x) (k : Nat) : rdG (((layS c X).map some).take k) c = layF c (X.take k) := by
  rw [← List.map_take, layS_take, rd_lay hc fun x hx => hX x (List.mem_of_mem_take hx)]
/-- What may become of sectors, the first s of them safe. -/
def Fz : Nat → List Cv → List Cv → Prop
  | 0, _, [] => True
  | 0, [], _ :: _ => False
  | 0, n :: ns, c :: t => (c = n ∨ c = none ∨ c = some zero256) ∧ Fz 0 ns t
  | s + 1, n :: ns, c :: t => c = n ∧ Fz s ns t
  | _ + 1, [], _ => False
  | _ + 1, _ :: _, [] => False
theorem Fz.len : ∀ {s : Nat} {now t : List Cv}, Fz s now t → s ≤ now.length ∧ s ≤ t.length ∧ t.length ≤ now.length
  | 0, _, [], _ => ⟨Nat.zero_le _, Nat.zero_le _, Nat.zero_le _⟩
  | 0, [], _ :: _, h => h.elim
  | 0, n :: ns, c :: t, h => ⟨Nat.zero_le _, Nat.zero_le _, Nat.succ_le_succ (Fz.len h.2).2.2⟩
  | s + 1, n :: ns, c :: t, h => ⟨Nat.succ_le_succ (Fz.len h.2).1, Nat.succ_le_succ (Fz.len h.2).2.1, Nat.succ_le_succ (Fz.len h.2).2.2⟩
  | _ + 1, [], _, h => h.elim
  | _ + 1, _ :: _, [], h => h.elim
theorem rd_fz : ∀ {s : Nat} {now t : List Cv} (c : Int), Fz s now t → ∃ k, s ≤ k ∧ k ≤ now.length ∧ rdG t c = rdG (now.take k) c ∧ t.take (rdG t c).length = now.take (rdG t c).length
  | 0, now, [], c, _ => ⟨0, Nat.le_refl _, Nat.zero_le _, by rw [List.take_zero], by show [].take 0 = now.take 0; rw [List.take_zero]; rfl⟩
  | 0, [], _ :: _, _, h => h.elim
  | 0, n :: ns, e :: t, c, h => by
    have stop : rdG (e :: t) c = [] → ∃ k, 0 ≤ k ∧ k ≤ (n :: ns).length ∧ rdG (e :: t) c = rdG ((n :: ns).take k) c ∧ (e :: t).take (rdG (e :: t) c).length = (n :: ns).take (rdG (e :: t) c).length := fun q => ⟨0, Nat.le_refl _, Nat.zero_le _, q.trans rfl, by rw [q]; rfl⟩
    rcases h.1 with q | q | q
    · subst q
      cases e with
      | none => exact stop rfl
      | some d =>
        cases hs : rightR c d with
        | none => exact stop (by simp only [rdG, hs])
        | some f =>
          obtain ⟨k, h1, h2, h3, h4⟩ := rd_fz f.2.1 h.2
          have e1 : rdG (some d :: t) c = f :: rdG t f.2.1 := by simp only [rdG, hs]
          exact ⟨k + 1, Nat.zero_le _, Nat.succ_le_succ h2, by rw [e1, List.take_succ_cons]; simp only [rdG, hs]; rw [h3], by rw [e1, List.length_cons, List.take_succ_cons, List.take_succ_cons, h4]⟩
    · subst q; exact stop rfl
    · subst q; exact stop (by simp only [rdG, zero_right])
  | s + 1, n :: ns, e :: t, c, h => by
    obtain ⟨q, h2⟩ := h
    have hl := h2.len
    subst q
    have stop : rdG (e :: t) c = [] → rdG (e :: ns) c = [] → ∃ k, s + 1 ≤ k ∧ k ≤ (e :: ns).length ∧ rdG (e :: t) c = rdG ((e :: ns).take k) c ∧ (e :: t).take (rdG (e :: t) c).length = (e :: ns).take (rdG (e :: t) c).length := fun q q' => ⟨(e :: ns).length, Nat.succ_le_succ hl.1, Nat.le_refl _, by rw [List.take_length, q, q'], by rw [q]; rfl⟩
    cases e with
    | none => exact stop rfl rfl
    | some d =>
      cases hs : rightR c d with
      | none => exact stop (by simp only [rdG, hs]) (by simp only [rdG, hs])
      | some f =>
        obtain ⟨k, h1, h3, h4, h5⟩ := rd_fz f.2.1 h2
        have e1 : rdG (some d :: t) c = f :: rdG t f.2.1 := by simp only [rdG, hs]
        exact ⟨k + 1, Nat.succ_le_succ h1, Nat.succ_le_succ h3, by rw [e1, List.take_succ_cons]; simp only [rdG, hs]; rw [h4], by rw [e1, List.length_cons, List.take_succ_cons, List.take_succ_cons, h5]⟩
  | _ + 1, [], _, _, h => h.elim
  | _ + 1, _ :: _, [], _, h => h.elim
theorem trim_some (c : Cv) (r : List (Option Cv)) : trimC (some c :: r) = some c :: trimC r := by
  have e : trimC (some c :: r) = (match trimC r, some c with | [], none => [] | t, c => c :: t) := rfl
  rw [e]
  cases trimC r <;> rfl
theorem trim_none (r : List (Option Cv)) : (trimC r = [] ∧ trimC (none :: r) = []) ∨ (trimC r ≠ [] ∧ trimC (none :: r) = none :: trimC r) := by
  have e : trimC (none :: r) = (match trimC r, (none : Option Cv) with | [], none => [] | t, c => c :: t) := rfl
  rw [e]
  cases trimC r with
  | nil => exact .inl ⟨rfl, rfl⟩
  | cons a t => exact .inr ⟨by simp, rfl⟩
theorem trim_len : ∀ (r : List (Option Cv)), (trimC r).length ≤ r.length
  | [] => Nat.le_refl _
  | some c :: r => by rw [trim_some]; exact Nat.succ_le_succ (trim_len r)
  | none :: r => by
    rcases trim_none r with ⟨_, e⟩ | ⟨_, e⟩
    · rw [e]; exact Nat.zero_le _
    · rw [e]; exact Nat.succ_le_succ (trim_len r)
theorem trimP_at : ∀ {r : List (Option Cv)} {i : Nat} {c : Cv}, r[i]? = some (some c) → (trimC r)[i]? = some (some c)
  | [], i, c, h => by simp at h
  | some a :: r, 0, c, h => by rw [trim_some]; exact h
  | some a :: r, i + 1, c, h => by rw [trim_some]; exact trimP_at (r := r) h
  | none :: r, 0, c, h => by cases h
  | none :: r, i + 1, c, h => by
    have ih := trimP_at (r := r) (i := i) h
    rcases trim_none r with ⟨e, _⟩ | ⟨_, e⟩
    · rw [e] at ih; cases ih
    · rw [e]; exact ih
theorem fate_cases (f : Int) (n : Cv) (s : Option Cv) : fateC f n s = some n ∨ fateC f n s = some none ∨ fateC f n s = s := by
  unfold fateC
  split
  · exact .inl rfl
  · split
    · exact .inr (.inl rfl)
    · exact .inr (.inr rfl)
theorem fatesP_len (l : List Int) : ∀ (ns : List Cv) (ss : List (Option Cv)) (ws : List Bool) (u : Nat), (fates l ns ss ws u).1.length = ss.length
  | [], _, _, _ => by simp only [fates]
  | _ :: _, [], _, _ => by simp only [fates]
  | _ :: _, _ :: _, [], _ => by simp only [fates]
  | n :: ns, s :: ss, true :: ws, u => by
    show (fateC _ n s :: (fates l ns ss ws (u + 1)).1).length = _
    rw [List.length_cons, fatesP_len l ns ss ws, List.length_cons]
  | n :: ns, s :: ss, false :: ws, u => by
    show (s :: (fates l ns ss ws u).1).length = _
    rw [List.length_cons, fatesP_len l ns ss ws, List.length_cons]
theorem fates_still (l : List Int) : ∀ {ns : List Cv} {ss : List (Option Cv)} {ws : List Bool} {u i : Nat}, ws[i]? = some false → (fates l ns ss ws u).1[i]? = ss[i]?
  | [], _, _, _, _, _ => by simp only [fates]
  | _ :: _, [], _, _, _, _ => by simp only [fates]
  | _ :: _, _ :: _, [], _, _, _ => by simp only [fates]
  | n :: ns, s :: ss, true :: ws, u, 0, h => by cases h
  | n :: ns, s :: ss, true :: ws, u, i + 1, h => fates_still l (ns := ns) (ss := ss) (ws := ws) (u := u + 1) (i := i) h
  | n :: ns, s :: ss, false :: ws, u, 0, h => rfl
  | n :: ns, s :: ss, false :: ws, u, i + 1, h => fates_still l (ns := ns) (ss := ss) (ws := ws) (u := u) (i := i) h
theorem fates_some (l : List Int) : ∀ {ns : List Cv} {ss : List (Option Cv)} {ws : List Bool} {u i : Nat}, (∃ c, ss[i]? = some (some c)) → ∃ c, (fates l ns ss ws u).1[i]? = some (some c)
  | [], _, _, _, _, h => by simpa only [fates] using h
  | _ :: _, [], _, _, _, h => by simpa only [fates] using h
  | _ :: _, _ :: _, [], _, _, h => by simpa only [fates] using h
  | n :: ns, s :: ss, true :: ws, u, 0, ⟨c, h⟩ => by
    obtain rfl : s = some c := Option.some.inj h
    show ∃ c', some (fateC (fateAt l u) n (some c)) = some (some c')
    rcases fate_cases (fateAt l u) n (some c) with e | e | e <;> rw [e]
    · exact ⟨_, rfl⟩
    · exact ⟨_, rfl⟩
    · exact ⟨_, rfl⟩
  | n :: ns, s :: ss, true :: ws, u, i + 1, h => fates_some l (ns := ns) (ss := ss) (ws := ws) (u := u + 1) (i := i) h
  | n :: ns, s :: ss, false :: ws, u, 0, h => h
  | n :: ns, s :: ss, false :: ws, u, i + 1, h => fates_some l (ns := ns) (ss := ss) (ws := ws) (u := u) (i := i) h
theorem fz_fates (l : List Int) : ∀ (now : List Cv) (s u : Nat), s ≤ now.length → Fz s now ((trimC (fates l now ((now.take s).map some ++ List.replicate (now.length - s) none) (List.replicate s false ++ List.replicate (now.length - s) true) u).1).map fillC)
  | [], s, u, h => by
    obtain rfl : s = 0 := Nat.le_zero.1 h
    exact trivial
  | n :: ns, 0, u, _ => by
    have ih := fz_fates l ns 0 (u + 1) (Nat.zero_le _)
    have e : (fates l (n :: ns) (((n :: ns).take 0).map some ++ List.replicate ((n :: ns).length - 0) none) (List.replicate 0 false ++ List.replicate ((n :: ns).length - 0) true) u).1 =
        fateC (fateAt l u) n none :: (fates l ns ((ns.take 0).map some ++ List.replicate (ns.length - 0) none) (List.replicate 0 false ++ List.replicate (ns.length - 0) true) (u + 1)).1 := rfl
    rw [e]
    generalize (fates l ns ((ns.take 0).map some ++ List.replicate (ns.length - 0) none) (List.replicate 0 false ++ List.replicate (ns.length - 0) true) (u + 1)).1 = r at ih
    rcases fate_cases (fateAt l u) n none with e | e | e <;> rw [e]
    · rw [trim_some]; exact ⟨.inl rfl, ih⟩
    · rw [trim_some]; exact ⟨.inr (.inl rfl), ih⟩
    · rcases trim_none r with ⟨_, e⟩ | ⟨_, e⟩
      · rw [e]; exact trivial
      · rw [e]; exact ⟨.inr (.inr rfl), ih⟩
  | n :: ns, s + 1, u, h => by
    have ih := fz_fates l ns s u (Nat.le_of_succ_le_succ h)
    have hs : (n :: ns).length - (s + 1) = ns.length - s := by rw [List.length_cons]; omega
    rw [hs]
    have e : (fates l (n :: ns) (((n :: ns).take (s + 1)).map some ++ List.replicate (ns.length - s) none) (List.replicate (s + 1) false ++ List.replicate (ns.length - s) true) u).1 =
        some n :: (fates l ns ((ns.take s).map some ++ List.replicate (ns.length - s) none) (List.replicate s false ++ List.replicate (ns.length - s) true) u).1 := rfl
    rw [e, trim_some]
    exact ⟨rfl, ih⟩
/-! A file behind a loss of power. -/
def setF (t : List Cv) : Fl := ⟨t, t.map some, List.replicate t.length false, true⟩
def onT (l : List Int) (x : Fl) (u : Nat) : List Cv := (trimC (fates l x.now x.safe x.wait u).1).map fillC
noncomputable def onO (l : List Int) (o : Option Fl) (u : Nat) : Option Fl := match o with | none => none | some x => by classical exact if onT l x u = [] ∧ x.sure = false then none else some (setF (onT l x u))
def onU (l : List Int) (o : Option Fl) (u : Nat) : Nat := match o with | none => u | some x => (fatedF l x u).2
theorem on_nil (l : List Int) (u : Nat) : onF l [] u = [] := rfl
theorem on_cons (l : List Int) (s : ByteArray) (x : Fl) (r : Fs) (u : Nat) : onF l ((s, x) :: r) u = (match onO l (some x) u with | none => onF l r (fatedF l x u).2 | some y => (s, y) :: onF l r (fatedF l x u).2) := by
  show (if (fatedF l x u).1.now = [] ∧ x.sure = false then onF l r (fatedF l x u).2 else (s, { (fatedF l x u).1 with sure := true }) :: onF l r (fatedF l x u).2) = _
  have e : (fatedF l x u).1.now = onT l x u := rfl
  rw [e]
  unfold onO
  by_cases h : onT l x u = [] ∧ x.sure = false
  · rw [if_pos h]; dsimp only; rw [if_pos h]
  · rw [if_neg h]; dsimp only; rw [if_neg h]; rfl
def fs1 (o : Option Fl) : Fs := match o with | none => [] | some y => [(logN, y)]
theorem on_fs1 (l : List Int) (o : Option Fl) : onF l (fs1 o) 0 = fs1 (onO l o 0) := by
  cases o with
  | none => rfl
  | some y =>
    show onF l [(logN, y)] 0 = _
    rw [on_cons, on_nil]
    cases onO l (some y) 0 <;> rfl
theorem onT_len (l : List Int) (x : Fl) (u : Nat) : (onT l x u).length ≤ x.safe.length := by
  unfold onT
  rw [List.length_map]
  exact Nat.le_trans (trim_len _) (Nat.le_of_eq (fatesP_len l _ _ _ _))
theorem fates_set (l : List Int) : ∀ (t : List Cv) (u : Nat), (fates l t (t.map some) (List.replicate t.length false) u).1 = t.map some
  | [], _ => rfl
  | n :: t, u => by
    have e : (fates l (n :: t) ((n :: t).map some) (List.replicate (n :: t).length false) u).1 = some n :: (fates l t (t.map some) (List.replicate t.length false) u).1 := rfl
    rw [e, fates_set l t u]
    rfl
theorem trim_all : ∀ (t : List Cv), trimC (t.map some) = t.map some
  | [] => rfl
  | c :: t => by rw [List.map_cons, trim_some, trim_all t]
theorem onT_set (l : List Int) (t : List Cv) (u : Nat) : onT l (setF t) u = t := by
  unfold onT setF
  dsimp only
  rw [fates_set, trim_all, List.map_map]
  have : (fillC ∘ some : Cv → Cv) = id := rfl
  rw [this, List.map_id]
theorem onO_set (l : List Int) (t : List Cv) (u : Nat) : onO l (some (setF t)) u = some (setF t) := by
  unfold onO
  dsimp only
  rw [if_neg (fun h => by have := h.2; cases this), onT_set]
def nowO (o : Option Fl) : List Cv := match o with | none => [] | some y => y.now
def lenO (o : Option Fl) : Nat := (nowO o).length
theorem lenO_now (o : Option Fl) : lenO o = (nowO o).length := rfl
theorem onO_now (l : List Int) (x : Fl) (u : Nat) : nowO (onO l (some x) u) = onT l x u := by
  unfold onO
  dsimp only
  split
  · rename_i h; exact h.1.symm
  · rfl
/-- All is settled. -/
def Settled (o : Option Fl) : Prop := o = none ∨ ∃ t, o = some (setF t)
theorem Settled.ms {o : Option Fl} (h : Settled o) : ∀ x, o = some x → x.safe.length = x.now.length := by
  rintro x rfl
  rcases h with h | ⟨t, h⟩
  · cases h
  · cases h; show (t.map some).length = _; rw [List.length_map]; rfl
theorem onO_kind (l : List Int) (o : Option Fl) (u : Nat) : onO l o u = none ∨ ∃ t, onO l o u = some (setF t) := by
  cases o with
  | none => exact .inl rfl
  | some x =>
    unfold onO
    dsimp only
    split
    · exact .inl rfl
    · exact .inr ⟨_, rfl⟩
theorem onO_len (l : List Int) {o : Option Fl} {u : Nat} (h : ∀ x, o = some x → x.safe.length = x.now.length) : lenO (onO l o u) ≤ lenO o := by
  cases o with
  | none => exact Nat.le_refl _
  | some x =>
    rw [lenO_now, onO_now]
    have := onT_len l x u
    rw [h x rfl] at this
    exact this
/-- A journal's file: the first sectors safe, those behind wait. -/
structure YF (y : Fl) (s : Nat) : Prop where
  safe : y.safe = (y.now.take s).map some ++ List.replicate (y.now.length - s) none
  wait : y.wait = List.replicate s false ++ List.replicate (y.now.length - s) true
theorem YF.set (t : List Cv) : YF (setF t) t.length := ⟨by unfold setF; simp, by unfold setF; simp⟩
theorem YF.sync (y : Fl) : YF (syncF y) y.now.length := YF.set y.now
/-! The power goes, or nothing is armed. -/
structure K2 (k : Dk) : Prop where
  kind : k.kind = 2 ∨ k.at' = 0
  room : 100 ≤ k.room
def Up (k : Dk) : Prop := k.down = false ∧ k.at' = 0
theorem beg2 {k : Dk} (h : K2 k) {s : ByteArray} (hs : goodName s = true) : ∃ k', K2 k' ∧ ((begS k s true = (0, k') ∧ (Up k → Up k')) ∨ (begS k s true = (10, k') ∧ ¬ Up k)) := by
  unfold begS
  rw [if_neg (by rw [hs]; simp)]
  split
  · rename_i hd
    exact ⟨k, h, .inr ⟨rfl, fun hu => by rw [hu.1] at hd; cases hd⟩⟩
  · rename_i hd
    split
    · rename_i ha
      exact ⟨{ k with ops := k.ops + 1 }, ⟨.inr ha, h.room⟩, .inl ⟨rfl, fun hu => hu⟩⟩
    · rename_i ha
      have hk : k.kind = 2 := h.kind.resolve_right ha
      split
      · exact ⟨{ k with ops := k.ops + 1, at' := k.at' - 1 }, ⟨.inl hk, h.room⟩, .inl ⟨rfl, fun hu => absurd hu.2 ha⟩⟩
      · try rw [if_pos hk]
        exact ⟨{ k with ops := k.ops + 1, down := true, life := k.life + 1, at' := 0 }, ⟨.inr rfl, h.room⟩, .inr ⟨rfl, fun hu => ha hu.2⟩⟩
theorem found2 {k : Dk} (h : K2 k) {fs : Fs} {s : ByteArray} (hs : goodName s = true) : ∃ k', K2 k' ∧ (((∃ x, findF fs s = some x) ∧ foundD ⟨k, fs⟩ s true = (0, ⟨k', fs⟩) ∧ (Up k → Up k')) ∨ (findF fs s = none ∧ foundD ⟨k, fs⟩ s true = (14, ⟨k', fs⟩) ∧ (Up k → Up k')) ∨ (foundD ⟨k, fs⟩ s true = (10, ⟨k', fs⟩) ∧ ¬ Up k)) := by
  obtain ⟨k', h1, ⟨h2, h3⟩ | ⟨h2, h3⟩⟩ := beg2 h hs
  · cases hf : findF fs s with
    | none => exact ⟨k', h1, .inr (.inl ⟨rfl, by unfold foundD; dsimp only; rw [h2, hf]; rfl, h3⟩)⟩
    | some x => exact ⟨k', h1, .inl ⟨⟨x, rfl⟩, by unfold foundD; dsimp only; rw [h2, hf]; rfl, h3⟩⟩
  · exact ⟨k', h1, .inr (.inr ⟨by unfold foundD; dsimp only; rw [h2]; rfl, h3⟩)⟩
section
variable {k k' : Dk} {fs : Fs} {s d : ByteArray}
theorem writeP_err {i : Int} (h0 : foundD ⟨k, fs⟩ s true = (10, ⟨k', fs⟩)) (hi : 0 ≤ i) (hd : d.size = 256) : writeD ⟨k, fs⟩ s i d = (10, ⟨k', fs⟩) := by
  unfold writeD
  rw [right_up hi hd, h0]
  rfl
theorem syncP_err (h0 : foundD ⟨k, fs⟩ s true = (10, ⟨k', fs⟩)) : syncD ⟨k, fs⟩ s = (10, ⟨k', fs⟩) := by
  unfold syncD
  rw [h0]
  rfl
end
/-! The log's file. -/
theorem find1 (o : Option Fl) : findF (fs1 o) logN = o := by
  cases o with
  | none => rfl
  | some y => exact find_one
theorem put1 (o : Option Fl) (y : Fl) : putF (fs1 o) logN y = fs1 (some y) := by
  cases o with
  | none => rfl
  | some z => exact put_one
theorem del1 (o : Option Fl) : delF (fs1 o) logN = fs1 none := by
  cases o with
  | none => rfl
  | some y => unfold delF fs1; simp
theorem total1 (o : Option Fl) : total (fs1 o) = lenO o := by cases o <;> simp [total, fs1, lenO, nowO]
theorem fs1_len (o : Option Fl) : (fs1 o).length ≤ 1 := by cases o <;> simp [fs1]
theorem size1_no (k : Dk) : sizeD ⟨k, fs1 none⟩ logN = -1 := rfl
theorem size1_yes (k : Dk) (y : Fl) : sizeD ⟨k, fs1 (some y)⟩ logN = (y.now.length : Nat) := by unfold sizeD; rw [find1]
def addO (o : Option Fl) (d : ByteArray) : Fl := match o with | none => ⟨[some d], [none], [true], false⟩ | some y => { y with now := y.now ++ [some d], safe := y.safe ++ [none], wait := y.wait ++ [true] }
theorem addO_now (o : Option Fl) (d : ByteArray) : (addO o d).now = nowO o ++ [some d] := by cases o <;> rfl
section
variable {k : Dk} (h : K2 k)
include h
theorem writeP (o : Option Fl) {d : ByteArray} (hd : d.size = 256) (hr : lenO o < 100) :
    ∃ k', K2 k' ∧ ((writeD ⟨k, fs1 o⟩ logN ((lenO o : Nat) : Int) d = (0, ⟨k', fs1 (some (addO o d))⟩) ∧ (Up k → Up k')) ∨ (writeD ⟨k, fs1 o⟩ logN ((lenO o : Nat) : Int) d = (10, ⟨k', fs1 o⟩) ∧ ¬ Up k)) := by
  obtain ⟨k', h1, h2⟩ := found2 h (fs := fs1 o) log_good
  have hroom : ((total (fs1 o) : Nat) : Int) < k'.room := by rw [total1]; have := h1.room; omega
  refine ⟨k', h1, ?_⟩
  rcases h2 with ⟨⟨x, hx⟩, h2, h3⟩ | ⟨hx, h2, h3⟩ | ⟨h2, h3⟩
  · rw [find1] at hx
    subst hx
    refine .inl ⟨?_, h3⟩
    unfold writeD
    rw [right_up (Int.natCast_nonneg _) hd, h2, find1]
    dsimp only [Option.getD_some]
    have hl : lenO (some x) = x.now.length := rfl
    rw [if_neg (by simp), if_neg (by omega), if_neg, put1, Int.toNat_natCast]
    · have hw : writeF x (lenO (some x)) d = addO (some x) d := by unfold writeF; rw [if_pos hl]; rfl
      rw [hw]
    · rintro (⟨h, _⟩ | ⟨h, h'⟩)
      · cases h
      · omega
  · rw [find1] at hx
    subst hx
    refine .inl ⟨?_, h3⟩
    have hl : lenO none = 0 := rfl
    unfold writeD
    rw [right_up (Int.natCast_nonneg _) hd, h2, find1]
    dsimp only [Option.getD_none]
    rw [hl, if_neg (by simp), if_neg (show ¬ ((fl0.now.length : Int) < ((0 : Nat) : Int)) by decide), if_neg, put1]
    · rfl
    · have := fs1_len none
      rintro (⟨_, h⟩ | ⟨_, h⟩) <;> omega
  · exact .inr ⟨writeP_err h2 (Int.natCast_nonneg _) hd, h3⟩
theorem syncP (y : Fl) : ∃ k', K2 k' ∧ ((syncD ⟨k, fs1 (some y)⟩ logN = (0, ⟨k', fs1 (some (syncF y))⟩) ∧ (Up k → Up k')) ∨ (syncD ⟨k, fs1 (some y)⟩ logN = (10, ⟨k', fs1 (some y)⟩) ∧ ¬ Up k)) := by
  obtain ⟨k', h1, h2⟩ := found2 h (fs := fs1 (some y)) log_good
  refine ⟨k', h1, ?_⟩
  rcases h2 with ⟨_, h2, h3⟩ | ⟨hx, h2, h3⟩ | ⟨h2, h3⟩
  · refine .inl ⟨?_, h3⟩
    unfold syncD
    rw [h2, find1]
    dsimp only [Option.getD_some]
    rw [if_neg (by simp), put1]
  · rw [find1] at hx; cases hx
  · exact .inr ⟨syncP_err h2, h3⟩
theorem cutP (y : Fl) {n : Nat} (hn : n ≤ y.now.length) : ∃ k', K2 k' ∧ ((cutD ⟨k, fs1 (some y)⟩ logN (n : Nat) = (0, ⟨k', fs1 (some (cutF y n))⟩) ∧ (Up k → Up k')) ∨ (cutD ⟨k, fs1 (some y)⟩ logN (n : Nat) = (10, ⟨k', fs1 (some y)⟩) ∧ ¬ Up k)) := by
  obtain ⟨k', h1, h2⟩ := found2 h (fs := fs1 (some y)) log_good
  refine ⟨k', h1, ?_⟩
  unfold cutD
  rw [decide_eq_true (Int.natCast_nonneg n)]
  rcases h2 with ⟨_, h2, h3⟩ | ⟨hx, h2, h3⟩ | ⟨h2, h3⟩
  · refine .inl ⟨?_, h3⟩
    rw [h2, find1]
    dsimp only [Option.getD_some]
    rw [if_neg (by simp), if_neg (by omega), put1, Int.toNat_natCast]
  · rw [find1] at hx; cases hx
  · refine .inr ⟨?_, h3⟩
    rw [h2]
    rfl
theorem dropP (y : Fl) : ∃ k', K2 k' ∧ ((dropD ⟨k, fs1 (some y)⟩ logN = (0, ⟨k', fs1 none⟩) ∧ (Up k → Up k')) ∨ (dropD ⟨k, fs1 (some y)⟩ logN = (10, ⟨k', fs1 (some y)⟩) ∧ ¬ Up k)) := by
  obtain ⟨k', h1, h2⟩ := found2 h (fs := fs1 (some y)) log_good
  refine ⟨k', h1, ?_⟩
  unfold dropD
  rcases h2 with ⟨_, h2, h3⟩ | ⟨hx, h2, h3⟩ | ⟨h2, h3⟩
  · refine .inl ⟨?_, h3⟩
    rw [h2]
    dsimp only
    rw [del1]
    rfl
  · rw [find1] at hx; cases hx
  · refine .inr ⟨?_, h3⟩
    rw [h2]
    rfl
theorem readP (hu : Up k) (y : Fl) {i : Nat} (hi : i < y.now.length) : ∃ k', K2 k' ∧ Up k' ∧ readD ⟨k, fs1 (some y)⟩ logN (i : Nat) = (readC (some y.now[i]), ⟨k', fs1 (some y)⟩) := by
  obtain ⟨k', h1, h2⟩ := found2 h (fs := fs1 (some y)) log_good
  rcases h2 with ⟨_, h2, h3⟩ | ⟨hx, h2, h3⟩ | ⟨h2, h3⟩
  · refine ⟨k', h1, h3 hu, ?_⟩
    unfold readD
    rw [h2, find1]
    dsimp only [Option.getD_some]
    rw [if_neg (by simp)]
    unfold readF
    rw [if_neg (by omega), Int.toNat_natCast, List.getElem?_eq_getElem hi]
  · rw [find1] at hx; cases hx
  · exact absurd hu h3
end
/-! A log under way. -/
structure LogS (o : Option Fl) (X : List XL) (s : Nat) : Prop where
  no : o = none → X = []
  yes : ∀ y, o = some y → y.now = some topS :: (layS c0 X).map some
  yf : ∀ y, o = some y → YF y s
  sl : s ≤ lenO o
  ok : ∀ x ∈ X, XOk x
theorem LogS.len {o : Option Fl} {X : List XL} {s : Nat} (h : LogS o X s) : lenO o ≤ X.length + 1 ∧ (X ≠ [] → lenO o = X.length + 1) := by
  cases o with
  | none => exact ⟨Nat.zero_le _, fun hh => absurd (h.no rfl) hh⟩
  | some y =>
    have : lenO (some y) = X.length + 1 := by
      show y.now.length = _
      rw [h.yes y rfl, List.length_cons, List.length_map, layS_len]
    exact ⟨by omega, fun _ => this⟩
theorem YF.add {o : Option Fl} {s : Nat} (h : ∀ y, o = some y → YF y s) (hs : s ≤ lenO o) (d : ByteArray) : YF (addO o d) s := by
  cases o with
  | none =>
    obtain rfl : s = 0 := Nat.le_zero.1 hs
    exact ⟨rfl, rfl⟩
  | some y =>
    obtain ⟨h1, h2⟩ := h y rfl
    have hs' : s ≤ y.now.length := hs
    have hn : (y.now ++ [some d]).length - s = (y.now.length - s) + 1 := by rw [List.length_append, List.length_singleton]; omega
    refine ⟨?_, ?_⟩
    · show y.safe ++ [none] = ((y.now ++ [some d]).take s).map some ++ List.replicate ((y.now ++ [some d]).length - s) none
      rw [hn, List.replicate_succ', h1, List.take_append_of_le_length hs', List.append_assoc]
    · show y.wait ++ [true] = List.replicate s false ++ List.replicate ((y.now ++ [some d]).length - s) true
      rw [hn, List.replicate_succ', h2, List.append_assoc]
theorem addP {k : Dk} (h : K2 k) {o : Option Fl} {X : List XL} {s : Nat} (hL : LogS o X s) {x : XL} (hx : XOk x) (hl : X.length < 98) :
    ∃ e fs' k' o', addL (layF c0 X) ⟨k, fs1 o⟩ x.1 x.2.1 x.2.2 = (e, fs', ⟨k', fs1 o'⟩) ∧ K2 k' ∧ (Up k → Up k' ∧ e = 0) ∧ (e = 0 → fs' = layF c0 (X ++ [x]) ∧ o' ≠ none ∧ LogS o' (X ++ [x]) s) ∧ (e ≠ 0 → fs' = layF c0 X ∧ LogS o' X s) := by
  have hno : ¬ (x.1 < 0 ∨ 4096 ≤ x.1 ∨ x.2.1.size ≠ 232) := by have := hx.n; have := hx.d; omega
  unfold addL
  rw [if_neg hno]
  dsimp only
  -- the top
  obtain ⟨e1, k1, o1, t1, t2, t3, t4, t5⟩ : ∃ e1 k1 o1, (if sizeD ⟨k, fs1 o⟩ logN < 0 then writeD ⟨k, fs1 o⟩ logN 0 topS else (0, ⟨k, fs1 o⟩)) = (e1, ⟨k1, fs1 o1⟩) ∧ K2 k1 ∧ (Up k → Up k1 ∧ e1 = 0) ∧ LogS o1 X s ∧ (e1 = 0 → o1 ≠ none) := by
    cases o with
    | none =>
      rw [size1_no, if_pos (by decide)]
      have hX := hL.no rfl
      have hs0 : s = 0 := Nat.le_zero.1 hL.sl
      have hw := writeP h none top_size (by show 0 < 100; decide)
      have e0 : ((lenO none : Nat) : Int) = 0 := rfl
      rw [e0] at hw
      obtain ⟨k1, hk1, ⟨e, h3⟩ | ⟨e, h3⟩⟩ := hw
      · refine ⟨0, k1, some (addO none topS), e, hk1, fun hu => ⟨h3 hu, rfl⟩, ⟨fun hh => (by cases hh), fun y hy => ?_, fun y hy => ?_, ?_, hL.ok⟩, fun _ => by simp⟩
        · cases hy; rw [hX]; rfl
        · cases hy; rw [hs0]; exact ⟨rfl, rfl⟩
        · rw [hs0]; exact Nat.zero_le _
      · exact ⟨10, k1, none, e, hk1, fun hu => absurd hu h3, hL, fun hh => by cases hh⟩
    | some y =>
      rw [size1_yes, if_neg (by omega)]
      exact ⟨0, k, some y, rfl, h, fun hu => ⟨hu, rfl⟩, hL, fun _ => by simp⟩
  rw [t1]
  dsimp only
  rcases Classical.em (e1 ≠ 0) with he1 | he1
  · rw [if_pos he1]
    exact ⟨e1, layF c0 X, k1, o1, rfl, t2, t3, fun he => absurd he he1, fun _ => ⟨rfl, t4⟩⟩
  · replace he1 := Classical.not_not.1 he1
    have ho1 := t5 he1
    obtain ⟨y1, rfl⟩ : ∃ y1, o1 = some y1 := by cases o1 with
      | none => exact absurd rfl ho1
      | some y1 => exact ⟨y1, rfl⟩
    obtain ⟨q1, q2, q3, q4⟩ := sec_is hx (endC_u X c0_u)
    rw [if_neg (fun hh => hh he1), if_neg (fun hh => hh q1), sumL_lay, layF_len]
    have hnow := t4.yes y1 rfl
    have hl1 : lenO (some y1) = X.length + 1 := by
      show y1.now.length = _
      rw [hnow, List.length_cons, List.length_map, layS_len]
    have hpos : (1 + (X.length : Int)) = ((lenO (some y1) : Nat) : Int) := by rw [hl1]; omega
    have hsx : closeS (kindL x.2.2) x.1 (endC c0 X).toNat x.2.1 = secX (endC c0 X) x := rfl
    rw [hpos, hsx]
    obtain ⟨k2, hk2, ⟨e, h3⟩ | ⟨e, h3⟩⟩ := writeP t2 (some y1) q2 (by omega)
    · rw [e]
      dsimp only
      rw [if_neg (by simp)]
      refine ⟨0, _, k2, _, rfl, hk2, fun hu => ⟨h3 (t3 hu).1, rfl⟩, fun _ => ⟨?_, by simp, fun hh => (by cases hh), fun y hy => ?_, fun y hy => ?_, ?_, ?_⟩, fun hh => absurd rfl hh⟩
      · rw [layF_snoc]; rfl
      · cases hy
        show (addO (some y1) _).now = _
        rw [addO_now, layS_snoc, List.map_append]
        show y1.now ++ _ = _
        rw [hnow]
        rfl
      · cases hy
        exact YF.add t4.yf t4.sl _
      · have := t4.sl
        show s ≤ (addO (some y1) _).now.length
        rw [addO_now, List.length_append]
        have h2 : (nowO (some y1)).length = lenO (some y1) := rfl
        omega
      · intro z hz
        rcases List.mem_append.1 hz with hz | hz
        · exact hL.ok z hz
        · rw [List.mem_singleton.1 hz]; exact hx
    · rw [e]
      dsimp only
      rw [if_pos (by simp)]
      exact ⟨10, layF c0 X, k2, some y1, rfl, hk2, fun hu => absurd (t3 hu).1 h3, fun he => (by cases he), fun _ => ⟨rfl, t4⟩⟩
theorem lsyncP {k : Dk} (h : K2 k) {o : Option Fl} {X : List XL} {s : Nat} (hL : LogS o X s) :
    ∃ e k' o', lsyncL ⟨k, fs1 o⟩ = (e, ⟨k', fs1 o'⟩) ∧ K2 k' ∧ (Up k → Up k' ∧ e = 0) ∧ (e = 0 → LogS o' X (lenO o') ∧ (o = none ↔ o' = none)) ∧ (e ≠ 0 → LogS o' X s) := by
  unfold lsyncL
  cases o with
  | none =>
    rw [size1_no, if_pos (by decide)]
    have hs0 : s = 0 := Nat.le_zero.1 hL.sl
    exact ⟨0, k, none, rfl, h, fun hu => ⟨hu, rfl⟩, fun _ => ⟨⟨hL.no, hL.yes, fun y hy => (by cases hy), Nat.le_refl _, hL.ok⟩, Iff.rfl⟩, fun hh => absurd rfl hh⟩
  | some y =>
    rw [size1_yes, if_neg (by omega)]
    obtain ⟨k1, hk1, ⟨e, h3⟩ | ⟨e, h3⟩⟩ := syncP h y
    · refine ⟨0, k1, some (syncF y), e, hk1, fun hu => ⟨h3 hu, rfl⟩, fun _ => ⟨⟨fun hh => (by cases hh), fun z hz => ?_, fun z hz => ?_, Nat.le_refl _, hL.ok⟩, by simp⟩, fun hh => absurd rfl hh⟩
      · cases hz; exact hL.yes y rfl
      · cases hz; exact YF.sync y
    · exact ⟨10, k1, some y, e, hk1, fun hu => absurd hu h3, fun he => (by cases he), fun _ => hL⟩
/-! Opened anew. -/
def commitAt (X : List XL) (i : Nat) : Bool := match X[i]? with | some x => x.2.2 | none => false
/-- The last commit among the first a frames. -/
def supC (X : List XL) : Nat → Nat
  | 0 => 0
  | a + 1 => if commitAt X a = true then a + 1 else supC X a
theorem supC_le (X : List XL) : ∀ a, supC X a ≤ a
  | 0 => Nat.le_refl _
  | a + 1 => by unfold supC; split; exact Nat.le_refl _; exact Nat.le_succ_of_le (supC_le X a)
theorem supC_yes (X : List XL) : ∀ a, 0 < supC X a → commitAt X (supC X a - 1) = true
  | 0, h => (Nat.lt_irrefl _ h).elim
  | a + 1, h => by
    unfold supC at h ⊢
    split
    · assumption
    · rename_i hc; rw [if_neg hc] at h; exact supC_yes X a h
theorem supC_mono (X : List XL) {a b : Nat} (h : a ≤ b) : supC X a ≤ supC X b := by
  induction b with
  | zero => obtain rfl : a = 0 := Nat.le_zero.1 h; exact Nat.le_refl _
  | succ b ih =>
    rcases Nat.lt_or_ge b a with hb | hb
    · obtain rfl : a = b + 1 := by omega
      exact Nat.le_refl _
    · conv => rhs; unfold supC
      split
      · exact Nat.le_trans (supC_le X a) (by omega)
      · exact ih hb
theorem supC_self (X : List XL) (a : Nat) : supC X (supC X a) = supC X a := by
  rcases Nat.eq_zero_or_pos (supC X a) with h | h
  · rw [h]; rfl
  · have hc := supC_yes X a h
    obtain ⟨b, hb⟩ : ∃ b, supC X a = b + 1 := ⟨supC X a - 1, by omega⟩
    rw [hb] at hc ⊢
    rw [Nat.add_sub_cancel] at hc
    show (if commitAt X b = true then b + 1 else supC X b) = _
    rw [if_pos hc]
theorem supC_uniq {X : List XL} {a n : Nat} (h1 : n ≤ a) (h2 : 0 < n → commitAt X (n - 1) = true) (h3 : ∀ i, n ≤ i → i < a → commitAt X i = false) : supC X a = n := by
  rcases Nat.lt_trichotomy (supC X a) n with h | h | h
  · have hc := h2 (by omega)
    have hm := supC_mono X h1
    have : supC X n = n := by
      obtain ⟨b, hb⟩ : ∃ b, n = b + 1 := ⟨n - 1, by omega⟩
      rw [hb] at hc ⊢
      rw [Nat.add_sub_cancel] at hc
      show (if commitAt X b = true then b + 1 else supC X b) = _
      rw [if_pos hc]
    omega
  · exact h
  · have hc := supC_yes X a (by omega)
    have hl := supC_le X a
    have := h3 (supC X a - 1) (by omega) (by omega)
    rw [this] at hc; cases hc
theorem trimR_is : ∀ (l : List Fr), ∃ n, n ≤ l.length ∧ trimR l = l.take n ∧ (0 < n → ∃ f, l[n - 1]? = some f ∧ f.2.2 = true) ∧ ∀ i f, n ≤ i → l[i]? = some f → f.2.2 = false
  | [] => ⟨0, Nat.le_refl _, rfl, fun h => absurd h (by decide), fun i f _ h => by simp at h⟩
  | g :: r => by
    obtain ⟨n, h1, h2, h3, h4⟩ := trimR_is r
    have e : trimR (g :: r) = (match trimR r, g.2.2 with | [], false => [] | t, _ => g :: t) := rfl
    rcases Nat.eq_zero_or_pos n with h0 | h0
    · subst h0
      rw [List.take_zero] at h2
      cases hg : g.2.2 with
      | false =>
        refine ⟨0, Nat.zero_le _, by rw [e, h2, hg]; rfl, fun h => absurd h (by decide), fun i f _ hi => ?_⟩
        cases i with
        | zero => cases hi; exact hg
        | succ i => exact h4 i f (Nat.zero_le _) hi
      | true =>
        refine ⟨1, by simp, by rw [e, h2, hg]; rfl, fun _ => ⟨g, rfl, hg⟩, fun i f hi hf => ?_⟩
        cases i with
        | zero => omega
        | succ i => exact h4 i f (Nat.zero_le _) hf
    · obtain ⟨f0, hf0, hf1⟩ := h3 h0
      refine ⟨n + 1, by simp; exact h1, ?_, fun _ => ⟨f0, ?_, hf1⟩, fun i f hi hf => ?_⟩
      · rw [e]
        have hne : trimR r ≠ [] := fun hh => by
          rw [h2] at hh
          have := congrArg List.length hh
          rw [List.length_take, List.length_nil] at this
          omega
        cases ht : trimR r with
        | nil => exact absurd ht hne
        | cons a t => rw [← ht, h2, List.take_succ_cons]; rw [h2] at ht; rw [ht]
      · obtain ⟨m, rfl⟩ : ∃ m, n = m + 1 := ⟨n - 1, by omega⟩
        exact hf0
      · cases i with
        | zero => omega
        | succ i => exact h4 i f (by omega) hf
theorem layF_at {c : Int} {X : List XL} {i : Nat} {f : Fr} (h : (layF c X)[i]? = some f) : f.2.2 = commitAt X i := by
  induction X generalizing c i with
  | nil => simp [layF] at h
  | cons x r ih =>
    cases i with
    | zero => cases h; rfl
    | succ i => exact ih (c := sumS (secX c x)) (i := i) h
theorem commit_take {X : List XL} {k i : Nat} (hi : i < k) : commitAt (X.take k) i = commitAt X i := by unfold commitAt; rw [List.getElem?_take, if_pos hi]
theorem trim_lay (c : Int) (X : List XL) {k : Nat} (hk : k ≤ X.length) : trimR (layF c (X.take k)) = layF c (X.take (supC X k)) := by
  obtain ⟨n, h1, h2, h3, h4⟩ := trimR_is (layF c (X.take k))
  have hlen : (layF c (X.take k)).length = k := by rw [layF_len, List.length_take]; omega
  rw [hlen] at h1
  have e : supC X k = n := supC_uniq h1 (fun h0 => by
    obtain ⟨f, hf, hc⟩ := h3 h0
    rw [layF_at hf, commit_take (by omega)] at hc
    exact hc) (fun i hi hik => by
    cases hf : (layF c (X.take k))[i]? with
    | none => rw [List.getElem?_eq_none_iff] at hf; omega
    | some f =>
      have := h4 i f hi hf
      rw [layF_at hf, commit_take hik] at this
      exact this)
  rw [h2, layF_take, List.take_take, e, Nat.min_eq_left h1]
theorem readL_up {y : Fl} : ∀ (m i : Nat) {fs : List Fr} {k : Dk}, K2 k → Up k → 0 < i → i + m = y.now.length →
    ∃ k', readL m i fs ⟨k, fs1 (some y)⟩ = ((true, 0, fs ++ rdG (y.now.drop i) (sumL fs)), ⟨k', fs1 (some y)⟩) ∧ K2 k' ∧ Up k'
  | 0, i, fs, k, hk, hu, h0, hi => by
    refine ⟨k, ?_, hk, hu⟩
    unfold readL
    rw [size1_yes, decide_eq_true (by omega), List.drop_of_length_le (by omega)]
    show ((true, 0, fs), _) = ((true, 0, fs ++ []), _)
    rw [List.append_nil]
  | m + 1, i, fs, k, hk, hu, h0, hi => by
    have hil : i < y.now.length := by omega
    obtain ⟨k1, hk1, hu1, hr⟩ := readP hk hu y hil
    have hd : y.now.drop i = y.now[i] :: y.now.drop (i + 1) := List.drop_eq_getElem_cons hil
    rw [hd]
    unfold readL
    dsimp only
    rw [hr]
    dsimp only
    cases hc : y.now[i] with
    | none =>
      refine ⟨k1, ?_, hk1, hu1⟩
      have e13 : (readC (some (none : Cv))).2 = 13 := rfl
      rw [if_pos e13, decide_eq_true h0]
      show ((true, 0, fs), _) = ((true, 0, fs ++ []), _)
      rw [List.append_nil]
    | some d =>
      have e0 : readC (some (some d)) = (d, 0) := rfl
      rw [e0]
      dsimp only
      rw [if_neg (by decide), if_neg (by simp), if_neg (by omega)]
      cases hs : rightR (sumL fs) d with
      | none =>
        refine ⟨k1, ?_, hk1, hu1⟩
        dsimp only
        rw [size1_yes, decide_eq_true (by omega)]
        simp only [rdG, hs, List.append_nil]
      | some f =>
        obtain ⟨k2, h2, h3, h4⟩ := readL_up (y := y) m (i + 1) (fs := fs ++ [f]) hk1 hu1 (by omega) (by omega)
        refine ⟨k2, ?_, h3, h4⟩
        dsimp only
        rw [h2]
        have hsum : sumL (fs ++ [f]) = f.2.1 := by unfold sumL; rw [List.getLast?_concat]
        rw [hsum, List.append_assoc]
        simp only [rdG, hs]
        rfl
def topped (o : Option Fl) : Prop := (nowO o)[0]? = some (some topS)
theorem openP {k : Dk} (hk : K2 k) (hu : Up k) (o : Option Fl) :
    ∃ fs' k' o', openL ⟨k, fs1 o⟩ = ((0, fs'), ⟨k', fs1 o'⟩) ∧ K2 k' ∧ Up k' ∧
      (topped o → fs' = trimR (rdG ((nowO o).drop 1) c0) ∧ ∃ y, o = some y ∧ (o' = some y ∧ y.now.length ≤ 1 + fs'.length ∨ o' = some (cutF y (1 + fs'.length)) ∧ 1 + fs'.length < y.now.length)) ∧
      (¬ topped o → fs' = [] ∧ o' = none) := by
  unfold openL
  cases o with
  | none =>
    rw [size1_no, if_pos (by decide)]
    exact ⟨[], k, none, rfl, hk, hu, fun h => (by cases h), fun _ => ⟨rfl, rfl⟩⟩
  | some y =>
    rw [size1_yes, if_neg (by omega), Int.toNat_natCast]
    -- not right
    have no : ∀ {k1 : Dk} {fs : List Fr}, K2 k1 → Up k1 → ¬ topped (some y) → ∃ fs' k' o', openR ((false, 0, fs), ⟨k1, fs1 (some y)⟩) = ((0, fs'), ⟨k', fs1 o'⟩) ∧ K2 k' ∧ Up k' ∧
        (topped (some y) → fs' = trimR (rdG ((nowO (some y)).drop 1) c0) ∧ ∃ y', some y = some y' ∧ (o' = some y' ∧ y'.now.length ≤ 1 + fs'.length ∨ o' = some (cutF y' (1 + fs'.length)) ∧ 1 + fs'.length < y'.now.length)) ∧
        (¬ topped (some y) → fs' = [] ∧ o' = none) := fun {k1 fs} h1 h2 h3 => by
      unfold openR
      dsimp only
      rw [if_neg (by simp), if_pos rfl]
      obtain ⟨k2, hk2, ⟨e, h5⟩ | ⟨e, h5⟩⟩ := dropP h1 y
      · rw [e]
        exact ⟨[], k2, none, rfl, hk2, h5 h2, fun hh => absurd hh h3, fun _ => ⟨rfl, rfl⟩⟩
      · exact absurd h2 h5
    cases hn : y.now with
    | nil =>
      have e : readL y.now.length 0 [] ⟨k, fs1 (some y)⟩ = ((false, 0, []), ⟨k, fs1 (some y)⟩) := by
        rw [hn]
        show ((decide (0 < sizeD ⟨k, fs1 (some y)⟩ logN), (0 : Int), ([] : List Fr)), _) = _
        rw [size1_yes, hn]
        rfl
      rw [← hn, e]
      exact no hk hu (fun hh => by unfold topped at hh; rw [show nowO (some y) = y.now from rfl, hn] at hh; cases hh)
    | cons c t =>
      have hil : 0 < y.now.length := by rw [hn]; simp
      obtain ⟨k1, hk1, hu1, hr⟩ := readP hk hu y hil
      have hc0 : y.now[0] = c := by simp [hn]
      rw [hc0] at hr
      have hlen : (c :: t).length = t.length + 1 := rfl
      have e : readL (c :: t).length 0 [] ⟨k, fs1 (some y)⟩ = (
          if (readC (some c)).2 = 13 then ((decide (0 < 0), 0, []), ⟨k1, fs1 (some y)⟩)
          else if (readC (some c)).2 ≠ 0 then ((false, (readC (some c)).2, []), ⟨k1, fs1 (some y)⟩)
          else (if (readC (some c)).1 = topS then readL t.length 1 [] ⟨k1, fs1 (some y)⟩ else ((false, 0, []), ⟨k1, fs1 (some y)⟩))) := by
        rw [hlen]
        conv => lhs; unfold readL
        dsimp only
        rw [show ((0 : Nat) : Int) = 0 from rfl] at hr ⊢
        rw [hr]
        rfl
      cases c with
      | none =>
        have e13 : (readC (some (none : Cv))).2 = 13 := rfl
        rw [if_pos e13] at e
        rw [e]
        exact no hk1 hu1 (fun hh => by unfold topped at hh; rw [show nowO (some y) = y.now from rfl, hn] at hh; cases hh)
      | some d =>
        have e0 : readC (some (some d)) = (d, 0) := rfl
        rw [e0] at e
        dsimp only at e
        rw [if_neg (by decide), if_neg (by simp)] at e
        by_cases hd : d = topS
        · rw [if_pos hd] at e
          obtain ⟨k2, h2, h3, h4⟩ := readL_up (y := y) t.length 1 (fs := []) hk1 hu1 (by decide) (by rw [hn, List.length_cons]; omega)
          rw [h2, List.nil_append] at e
          have hs0 : sumL [] = c0 := rfl
          rw [hs0] at e
          rw [e]
          unfold openR
          dsimp only
          rw [if_neg (by simp), if_neg (by simp), size1_yes]
          have htop : topped (some y) := by unfold topped; rw [show nowO (some y) = y.now from rfl, hn, hd]; rfl
          by_cases hlt : (1 + ((trimR (rdG (y.now.drop 1) c0)).length : Int)) < ((y.now.length : Nat) : Int)
          · rw [if_pos hlt]
            have hcast : (1 + ((trimR (rdG (y.now.drop 1) c0)).length : Int)) = ((1 + (trimR (rdG (y.now.drop 1) c0)).length : Nat) : Int) := by omega
            rw [hcast]
            obtain ⟨k3, hk3, ⟨e3, h5⟩ | ⟨e3, h5⟩⟩ := cutP h3 y (n := 1 + (trimR (rdG (y.now.drop 1) c0)).length) (by omega)
            · rw [e3]
              dsimp only
              rw [if_neg (by simp)]
              exact ⟨_, k3, _, rfl, hk3, h5 h4, fun _ => ⟨rfl, y, rfl, .inr ⟨rfl, by omega⟩⟩, fun hh => absurd htop hh⟩
            · exact absurd h4 h5
          · rw [if_neg hlt]
            exact ⟨_, k2, _, rfl, h3, h4, fun _ => ⟨rfl, y, rfl, .inl ⟨rfl, by omega⟩⟩, fun hh => absurd htop hh⟩
        · rw [if_neg hd] at e
          rw [e]
          exact no hk1 hu1 (fun hh => by unfold topped at hh; rw [show nowO (some y) = y.now from rfl, hn] at hh; exact hd (Option.some.inj (Option.some.inj hh)))
/-! What holds. -/
def wantS (X : List XL) (n : Int) : ByteArray := X.foldl (fun w x => if x.1 = n then x.2.1 else w) ⟨#[]⟩
theorem want_snoc (X : List XL) (x : XL) (n : Int) : wantS (X ++ [x]) n = if x.1 = n then x.2.1 else wantS X n := by unfold wantS; rw [List.foldl_append]; rfl
theorem snoc_ind {α : Type} {P : List α → Prop} (h0 : P []) (h1 : ∀ l a, P l → P (l ++ [a])) (l : List α) : P l := by
  rw [← List.reverse_reverse l]
  induction l.reverse with
  | nil => exact h0
  | cons a t ih => rw [List.reverse_cons]; exact h1 _ _ ih
theorem hold_look (c n : Int) (X : List XL) : (lookI (lastM (layF c X)) n = none ∧ wantS X n = ⟨#[]⟩) ∨ ∃ (i : Nat) (x : XL), lookI (lastM (layF c X)) n = some ((i : Nat) : Int) ∧ X[i]? = some x ∧ wantS X n = x.2.1 := by
  refine snoc_ind (P := fun X => (lookI (lastM (layF c X)) n = none ∧ wantS X n = ⟨#[]⟩) ∨ ∃ (i : Nat) (x : XL), lookI (lastM (layF c X)) n = some ((i : Nat) : Int) ∧ X[i]? = some x ∧ wantS X n = x.2.1) (.inl ⟨rfl, rfl⟩) (fun X x ih => ?_) X
  rw [layF_snoc, lastM_snoc, look_put, want_snoc, layF_len]
  have hf : (frX (endC c X) x).1 = x.1 := rfl
  rw [hf]
  by_cases h : x.1 = n
  · rw [if_pos h.symm, if_pos h]
    exact .inr ⟨X.length, x, rfl, by simp, rfl⟩
  · rw [if_neg (fun e => h e.symm), if_neg h]
    rcases ih with h1 | ⟨i, z, h1, h2, h3⟩
    · exact .inl h1
    · have hi : i < X.length := (List.getElem?_eq_some_iff.1 h2).1
      exact .inr ⟨i, z, h1, by rw [List.getElem?_append_left hi]; exact h2, h3⟩
theorem layS_at : ∀ {X : List XL} {c : Int} {i : Nat} {x : XL}, U64 c → X[i]? = some x → ∃ c', U64 c' ∧ (layS c X)[i]? = some (secX c' x)
  | [], _, _, _, _, h => by simp at h
  | y :: r, c, 0, x, hc, h => by cases h; exact ⟨c, hc, rfl⟩
  | y :: r, c, i + 1, x, _, h => layS_at (X := r) (c := sumS (secX c y)) (i := i) (sumS_u _) h
theorem getP {k : Dk} (hk : K2 k) (hu : Up k) {o : Option Fl} {X : List XL} {s : Nat} (hL : LogS o X s) (n : Int) :
    ∃ k' is, getL (layF c0 X) ⟨k, fs1 o⟩ n = ((wantS X n, is, 0), ⟨k', fs1 o⟩) ∧ K2 k' ∧ Up k' ∧ (is = true ↔ wantS X n ≠ ⟨#[]⟩) := by
  unfold getL
  rcases hold_look c0 n X with ⟨h1, h2⟩ | ⟨i, x, h1, h2, h3⟩
  · rw [h1, h2]
    exact ⟨k, false, rfl, hk, hu, by simp⟩
  · rw [h1]
    dsimp only
    have hi : i < X.length := (List.getElem?_eq_some_iff.1 h2).1
    have hxo : XOk x := hL.ok x (List.mem_of_getElem? h2)
    obtain ⟨y, rfl⟩ : ∃ y, o = some y := by
      cases o with
      | none => have := hL.no rfl; rw [this] at hi; simp at hi
      | some y => exact ⟨y, rfl⟩
    have hnow := hL.yes y rfl
    obtain ⟨c', hc', hs⟩ := layS_at c0_u h2
    have hlen : y.now.length = X.length + 1 := by rw [hnow, List.length_cons, List.length_map, layS_len]
    obtain ⟨k1, hk1, hu1, hr⟩ := readP hk hu y (i := 1 + i) (by omega)
    have hcast : (1 + ((i : Nat) : Int)) = ((1 + i : Nat) : Int) := by omega
    have hat : y.now[1 + i]? = some (some (secX c' x)) := by
      rw [hnow, show 1 + i = i + 1 by omega, List.getElem?_cons_succ, List.getElem?_map, hs]
      rfl
    have hat' : y.now[1 + i] = some (secX c' x) := by
      rw [List.getElem?_eq_getElem (by omega)] at hat
      exact Option.some.inj hat
    rw [hat'] at hr
    rw [hcast, hr]
    have e0 : readC (some (some (secX c' x))) = (secX c' x, 0) := rfl
    rw [e0]
    dsimp only
    rw [if_neg (by simp), (sec_is hxo hc').2.2.2, h3]
    refine ⟨k1, true, rfl, hk1, hu1, iff_of_true rfl fun e => ?_⟩
    have := hxo.d
    rw [e] at this
    cases this
/-! LogKeeps' calls, one behind the other. -/
structure KeepR (X : List XL) (laid sure : Nat) (fs : List Fr) (D : DM) : Prop where
  ex : ∃ k o s s0, D = ⟨k, fs1 o⟩ ∧ K2 k ∧ LogS o (X.take laid) s ∧ s0 ≤ laid ∧ (s0 = 0 ∨ s0 + 1 ≤ s) ∧ sure = supC X s0
  fs : fs = layF c0 (X.take laid)
  le : laid ≤ X.length
theorem LogS.nil : LogS none [] 0 := ⟨fun _ => rfl, fun y hy => (by cases hy), fun y hy => (by cases hy), Nat.le_refl _, fun x hx => (by cases hx)⟩
theorem keep_start (X : List XL) {D : DM} {r : Int} (h : D = newD r) (hr : 100 ≤ r) (a : Int) : openL D = ((0, []), D) ∧ KeepR X 0 0 [] (armD D a 2 0) := by
  subst h
  refine ⟨rfl, ⟨(armD (newD r) a 2 0).k, none, 0, 0, rfl, ⟨.inl rfl, ?_⟩, by rw [List.take_zero]; exact LogS.nil, Nat.le_refl _, .inl rfl, rfl⟩, by rw [List.take_zero]; rfl, Nat.zero_le _⟩
  show 100 ≤ clampR r
  unfold clampR
  omega
theorem keep_add {X : List XL} {i sure : Nat} {fs : List Fr} {D : DM} (h : KeepR X i sure fs D) {x : XL} (hx : X[i]? = some x) (hxo : XOk x) (hi : i < 90) {e : Int} {fs' : List Fr} {D' : DM} (ha : (e, fs', D') = addL fs D x.1 x.2.1 x.2.2) :
    (e = 0 → KeepR X (i + 1) sure fs' D') ∧ (¬ e = 0 → KeepR X i sure fs' D') := by
  obtain ⟨⟨k, o, s, s0, rfl, hk, hL, h1, h2, h3⟩, rfl, hle⟩ := h
  have hil : i < X.length := (List.getElem?_eq_some_iff.1 hx).1
  have htl : (X.take i).length = i := by rw [List.length_take]; omega
  obtain ⟨e', fs'', k', o', q1, q2, q3, q4, q5⟩ := addP hk hL hxo (by omega)
  rw [q1] at ha
  simp only [Prod.mk.injEq] at ha
  obtain ⟨rfl, rfl, rfl⟩ := ha
  have hsn : X.take (i + 1) = X.take i ++ [x] := by rw [List.take_add_one, hx]; rfl
  refine ⟨fun he => ?_, fun he => ?_⟩
  · obtain ⟨r1, _, r2⟩ := q4 he
    exact ⟨⟨k', o', s, s0, rfl, q2, by rw [hsn]; exact r2, by omega, h2, h3⟩, by rw [hsn]; exact r1, hil⟩
  · obtain ⟨r1, r2⟩ := q5 he
    exact ⟨⟨k', o', s, s0, rfl, q2, r2, h1, h2, h3⟩, r1, hle⟩
theorem keep_sync {X : List XL} {i sure : Nat} {fs : List Fr} {D : DM} (h : KeepR X i sure fs D) {e : Int} {D' : DM} (ha : (e, D') = lsyncL D) :
    (e = 0 → KeepR X i (supC X i) fs D') ∧ (¬ e = 0 → KeepR X i sure fs D') := by
  obtain ⟨⟨k, o, s, s0, rfl, hk, hL, h1, h2, h3⟩, rfl, hle⟩ := h
  have htl : (X.take i).length = i := by rw [List.length_take]; omega
  obtain ⟨e', k', o', q1, q2, q3, q4, q5⟩ := lsyncP hk hL
  rw [q1] at ha
  simp only [Prod.mk.injEq] at ha
  obtain ⟨rfl, rfl⟩ := ha
  refine ⟨fun he => ?_, fun he => ⟨⟨k', o', s, s0, rfl, q2, q5 he, h1, h2, h3⟩, rfl, hle⟩⟩
  obtain ⟨r1, _⟩ := q4 he
  refine ⟨⟨k', o', _, i, rfl, q2, r1, Nat.le_refl _, ?_, rfl⟩, rfl, hle⟩
  rcases Nat.eq_zero_or_pos i with h0 | h0
  · exact .inl h0
  · right
    have := r1.len.2 (fun hh => by have := congrArg List.length hh; rw [htl, List.length_nil] at this; omega)
    omega
theorem supC_take (X : List XL) {m : Nat} : ∀ {a : Nat}, a ≤ m → supC (X.take m) a = supC X a
  | 0, _ => rfl
  | a + 1, h => by
    unfold supC
    rw [commit_take (by omega), supC_take X (by omega)]
theorem cut_set (t : List Cv) (n : Nat) : cutF (setF t) n = setF (t.take n) := by
  unfold cutF setF
  dsimp only
  rw [List.map_take, List.take_replicate, List.length_take]
/-- A log is opened over a disk, all of whose sectors are right or not. -/
theorem open_lay {k : Dk} (hk : K2 k) (hu : Up k) {X : List XL} (hX : ∀ x ∈ X, XOk x) {t : List Cv} {s : Nat} (hz : Fz s (some topS :: (layS c0 X).map some) t) {o : Option Fl} (ho : nowO o = t) (hset : o = none ∨ ∃ t', o = some (setF t')) :
    ∃ n k' o', openL ⟨k, fs1 o⟩ = ((0, layF c0 (X.take n)), ⟨k', fs1 o'⟩) ∧ K2 k' ∧ Up k' ∧ (∃ s', LogS o' (X.take n) s') ∧ (∃ a, n = supC X a ∧ (s = 0 ∨ s - 1 ≤ a) ∧ a ≤ X.length) := by
  obtain ⟨fs', k', o', e, h1, h2, h3, h4⟩ := openP hk hu o
  by_cases ht : topped o
  · obtain ⟨rfl, y, rfl, hy⟩ := h3 ht
    have hnow : y.now = t := ho
    obtain ⟨t', ht'⟩ : ∃ t', some y = some (setF t') := hset.resolve_left (by simp)
    obtain rfl : y = setF t' := Option.some.inj ht'
    have htt : t' = t := hnow
    subst htt
    clear ho hset ht' hnow
    have hnn : nowO (some (setF t')) = t' := rfl
    unfold topped at ht
    rw [hnn] at ht hy e
    have hsl : (setF t').now = t' := rfl
    rw [hsl] at hy
    obtain ⟨c, t, rfl⟩ : ∃ c t, t' = c :: t := by cases t' with
      | nil => cases ht
      | cons c t => exact ⟨c, t, rfl⟩
    obtain rfl : c = some topS := Option.some.inj ht
    have hz2 : Fz (s - 1) ((layS c0 X).map some) t := by cases s with
      | zero => exact hz.2
      | succ s => exact hz.2
    have hdr : (some topS :: t).drop 1 = t := rfl
    rw [hdr] at hy e
    obtain ⟨a, a1, a2, a3, a4⟩ := rd_fz c0 hz2
    rw [List.length_map, layS_len] at a2
    rw [rd_take c0_u hX] at a3
    have hlen : (rdG t c0).length = a := by rw [a3, layF_len, List.length_take]; omega
    rw [hlen] at a4
    rw [a3, trim_lay c0 X a2] at hy e
    have hn := supC_le X a
    have hnl : (layF c0 (X.take (supC X a))).length = supC X a := by rw [layF_len, List.length_take]; omega
    rw [hnl] at hy
    have htk : t.take (supC X a) = (layS c0 (X.take (supC X a))).map some := by
      have := congrArg (List.take (supC X a)) a4
      rw [List.take_take, List.take_take, Nat.min_eq_left hn] at this
      rw [this, ← List.map_take, layS_take]
    have hok : ∀ x ∈ X.take (supC X a), XOk x := fun x hx => hX x (List.mem_of_mem_take hx)
    refine ⟨supC X a, k', o', e, h1, h2, ?_, a, rfl, ?_, a2⟩
    · rcases hy with ⟨rfl, hy2⟩ | ⟨rfl, hy2⟩
      · have hl2 : t.length ≤ supC X a := by rw [List.length_cons] at hy2; omega
        refine ⟨_, fun hh => (by cases hh), fun z hz => ?_, fun z hz => ?_, Nat.le_refl _, hok⟩
        · cases hz
          show some topS :: t = _
          rw [← htk, List.take_of_length_le hl2]
        · cases hz
          exact YF.set _
      · rw [cut_set]
        refine ⟨_, fun hh => (by cases hh), fun z hz => ?_, fun z hz => ?_, Nat.le_refl _, hok⟩
        · cases hz
          show (some topS :: t).take (1 + supC X a) = _
          rw [Nat.add_comm, List.take_succ_cons, htk]
        · cases hz
          exact YF.set _
    · right; omega
  · obtain ⟨rfl, rfl⟩ := h4 ht
    refine ⟨0, k', none, by rw [List.take_zero]; exact e, h1, h2, ⟨0, by rw [List.take_zero]; exact LogS.nil⟩, 0, rfl, ?_, Nat.zero_le _⟩
    left
    cases s with
    | zero => rfl
    | succ s =>
      exfalso
      apply ht
      unfold topped
      rw [ho]
      cases t with
      | nil => exact hz.elim
      | cons c t => obtain ⟨rfl, _⟩ := hz; rfl
theorem keep_on {X : List XL} {laid sure : Nat} {fs : List Fr} {D : DM} (h : KeepR X laid sure fs D) (F : List Int) :
    ∃ n k o, openL (armD (onD (offD D) F) 0 0 0) = ((0, layF c0 (X.take n)), ⟨k, fs1 o⟩) ∧ K2 k ∧ Up k ∧ (∃ s, LogS o (X.take n) s) ∧ sure ≤ n ∧ n ≤ laid ∧ (0 < n → commitAt X (n - 1) = true) := by
  obtain ⟨⟨k, o, s, s0, rfl, hk, hL, h1, h2, rfl⟩, _, hle⟩ := h
  -- the power
  have hd : (offD ⟨k, fs1 o⟩).k.down = true := by
    unfold offD
    dsimp only
    split
    · assumption
    · rfl
  have hr : 100 ≤ (offD ⟨k, fs1 o⟩).k.room := by
    unfold offD
    dsimp only
    split <;> exact hk.room
  have hfs : (offD ⟨k, fs1 o⟩).fs = fs1 o := rfl
  obtain ⟨k1, e1, hk1, hu1⟩ : ∃ k1, armD (onD (offD ⟨k, fs1 o⟩) F) 0 0 0 = ⟨k1, fs1 (onO F o 0)⟩ ∧ K2 k1 ∧ Up k1 := by
    unfold onD
    rw [if_pos hd, hfs, on_fs1]
    exact ⟨_, rfl, ⟨.inr rfl, hr⟩, rfl, rfl⟩
  rw [e1]
  have htl : (X.take laid).length = laid := by rw [List.length_take]; omega
  have hfin : ∀ {n a : Nat}, n = supC (X.take laid) a → a ≤ (X.take laid).length → (s = 0 ∨ s - 1 ≤ a) → supC X s0 ≤ n ∧ n ≤ laid ∧ (0 < n → commitAt X (n - 1) = true) := fun {n a} hn ha hs => by
    rw [htl] at ha
    rw [supC_take X ha] at hn
    have hle2 := supC_le X a
    refine ⟨?_, by omega, fun h0 => ?_⟩
    · rw [hn]
      refine supC_mono X ?_
      omega
    · rw [hn]; exact supC_yes X a (by omega)
  cases ho : o with
  | none =>
    subst ho
    have hs0 : s = 0 := Nat.le_zero.1 hL.sl
    obtain ⟨n, k', o', r1, r2, r3, ⟨s', r4⟩, a, r5, r6, r7⟩ := open_lay hk1 hu1 (X := []) (fun x hx => (by cases hx)) (t := []) (s := 0) trivial (o := onO F none 0) rfl (.inl rfl)
    have hX0 := hL.no rfl
    have hn0 : n = 0 := by rw [r5]; have := supC_le [] a; rw [List.length_nil] at r7; omega
    subst hn0
    refine ⟨0, k', o', ?_, r2, r3, ⟨s', ?_⟩, ?_⟩
    · rw [r1]; rfl
    · rw [List.take_zero]; rw [List.take_zero] at r4; exact r4
    · have : s0 = 0 := by omega
      rw [this]
      exact ⟨Nat.le_refl _, Nat.zero_le _, fun hh => absurd hh (by decide)⟩
  | some y =>
    subst ho
    have hy := hL.yf y rfl
    have hsl : s ≤ y.now.length := hL.sl
    have hz := fz_fates F y.now s 0 hsl
    rw [← hy.safe, ← hy.wait, hL.yes y rfl] at hz
    have hz' : Fz s (some topS :: (layS c0 (X.take laid)).map some) (onT F y 0) := by unfold onT; rw [hL.yes y rfl]; exact hz
    obtain ⟨n, k', o', r1, r2, r3, ⟨s', r4⟩, a, r5, r6, r7⟩ := open_lay hk1 hu1 hL.ok hz' (onO_now F y 0) (onO_kind F (some y) 0)
    obtain ⟨q1, q2, q3⟩ := hfin r5 r7 r6
    have htt : (X.take laid).take n = X.take n := by rw [List.take_take, Nat.min_eq_left q2]
    rw [htt] at r1 r4
    exact ⟨n, k', o', r1, r2, r3, ⟨s', r4⟩, q1, q2, q3⟩
/-! Where nothing is amiss. -/
structure UpR (X : List XL) (fs : List Fr) (D : DM) : Prop where
  ex : ∃ k o s, D = ⟨k, fs1 o⟩ ∧ Up k ∧ K2 k ∧ LogS o X s
  fs : fs = layF c0 X
theorem up_start {D : DM} {r : Int} (h : D = newD r) (hr : 100 ≤ r) : openL D = ((0, []), D) ∧ UpR [] [] D := by
  subst h
  refine ⟨rfl, ⟨(newD r).k, none, 0, rfl, ⟨rfl, rfl⟩, ⟨.inr rfl, ?_⟩, LogS.nil⟩, rfl⟩
  show 100 ≤ clampR r
  unfold clampR
  omega
theorem up_add {X : List XL} {fs : List Fr} {D : DM} (h : UpR X fs D) {x : XL} (hxo : XOk x) (hl : X.length < 98) {e : Int} {fs' : List Fr} {D' : DM} (ha : (e, fs', D') = addL fs D x.1 x.2.1 x.2.2) : e = 0 ∧ UpR (X ++ [x]) fs' D' := by
  obtain ⟨⟨k, o, s, rfl, hu, hk, hL⟩, rfl⟩ := h
  obtain ⟨e', fs'', k', o', q1, q2, q3, q4, q5⟩ := addP hk hL hxo hl
  rw [q1] at ha
  simp only [Prod.mk.injEq] at ha
  obtain ⟨rfl, rfl, rfl⟩ := ha
  obtain ⟨u1, u2⟩ := q3 hu
  obtain ⟨r1, _, r2⟩ := q4 u2
  exact ⟨u2, ⟨k', o', s, rfl, u1, q2, r2⟩, r1⟩
theorem up_get {X : List XL} {fs : List Fr} {D : DM} (h : UpR X fs D) (n : Int) {z : ByteArray} {is : Bool} {e : Int} {D' : DM} (hg : ((z, is, e), D') = getL fs D n) : z = wantS X n ∧ (is = true ↔ wantS X n ≠ ⟨#[]⟩) ∧ e = 0 ∧ UpR X fs D' := by
  obtain ⟨⟨k, o, s, rfl, hu, hk, hL⟩, rfl⟩ := h
  obtain ⟨k', is', q1, q2, q3, q4⟩ := getP hk hu hL n
  rw [q1] at hg
  simp only [Prod.mk.injEq] at hg
  obtain ⟨⟨rfl, rfl, rfl⟩, rfl⟩ := hg
  exact ⟨rfl, q4, rfl, ⟨k', o, s, rfl, q3, q2, hL⟩, rfl⟩
theorem up_len {X : List XL} {fs : List Fr} {D : DM} (h : UpR X fs D) : fs.length = X.length := by rw [h.fs, layF_len]
theorem YF.cut {y : Fl} {s : Nat} (h : YF y s) (hs : s ≤ y.now.length) (n : Nat) : YF (cutF y n) (min s n) := by
  refine ⟨?_, ?_⟩
  · show y.safe.take n = ((y.now.take n).take (min s n)).map some ++ List.replicate ((y.now.take n).length - min s n) none
    rw [h.safe, List.take_append, List.length_map, List.length_take, ← List.map_take, List.take_take, List.take_take, List.take_replicate, List.length_take]
    congr 1
    · congr 2; omega
    · congr 1; omega
  · show y.wait.take n = List.replicate (min s n) false ++ List.replicate ((y.now.take n).length - min s n) true
    rw [h.wait, List.take_append, List.length_replicate, List.take_replicate, List.take_replicate, List.length_take]
    congr 2 <;> omega
theorem up_back {X : List XL} {fs : List Fr} {D : DM} (h : UpR X fs D) {j : Nat} (hj : j ≤ X.length) {e : Int} {fs' : List Fr} {D' : DM} (hb : (e, fs', D') = lbackL fs D (j : Nat)) : e = 0 ∧ UpR (X.take j) fs' D' := by
  have hlen := up_len h
  obtain ⟨⟨k, o, s, rfl, hu, hk, hL⟩, rfl⟩ := h
  unfold lbackL at hb
  rw [if_neg (by omega), hlen] at hb
  by_cases hjn : ((j : Nat) : Int) = ((X.length : Nat) : Int)
  · rw [if_pos hjn] at hb
    simp only [Prod.mk.injEq] at hb
    obtain ⟨rfl, rfl, rfl⟩ := hb
    have : X.take j = X := List.take_of_length_le (by omega)
    rw [this]
    exact ⟨rfl, ⟨k, o, s, rfl, hu, hk, hL⟩, rfl⟩
  · rw [if_neg hjn] at hb
    dsimp only at hb
    obtain ⟨y, rfl⟩ : ∃ y, o = some y := by
      cases o with
      | none => have := hL.no rfl; rw [this] at hj hjn; simp at hj; subst hj; exact absurd rfl hjn
      | some y => exact ⟨y, rfl⟩
    have hnow := hL.yes y rfl
    have hyl : y.now.length = X.length + 1 := by rw [hnow, List.length_cons, List.length_map, layS_len]
    have hcast : (1 + ((j : Nat) : Int)) = ((1 + j : Nat) : Int) := by omega
    rw [hcast] at hb
    obtain ⟨k1, hk1, ⟨e1, h3⟩ | ⟨e1, h3⟩⟩ := cutP hk y (n := 1 + j) (by omega)
    · rw [e1] at hb
      dsimp only at hb
      rw [if_pos rfl, Int.toNat_natCast, layF_take] at hb
      simp only [Prod.mk.injEq] at hb
      obtain ⟨rfl, rfl, rfl⟩ := hb
      refine ⟨rfl, ⟨k1, some (cutF y (1 + j)), min s (1 + j), rfl, h3 hu, hk1, fun hh => (by cases hh), fun z hz => ?_, fun z hz => ?_, ?_, fun x hx => hL.ok x (List.mem_of_mem_take hx)⟩, rfl⟩
      · cases hz
        show y.now.take (1 + j) = _
        rw [hnow, Nat.add_comm, List.take_succ_cons, ← List.map_take, layS_take]
      · cases hz
        exact (hL.yf y rfl).cut hL.sl _
      · show min s (1 + j) ≤ (y.now.take (1 + j)).length
        rw [List.length_take]
        have : s ≤ y.now.length := hL.sl
        omega
    · exact absurd hu h3
theorem up_over {X : List XL} {fs : List Fr} {D : DM} (h : UpR X fs D) {j : Int} (hj : j < 0 ∨ (X.length : Int) < j) {e : Int} {fs' : List Fr} {D' : DM} (hb : (e, fs', D') = lbackL fs D j) : e = 1 ∧ UpR X fs' D' := by
  have hlen := up_len h
  unfold lbackL at hb
  rw [if_pos (by omega)] at hb
  simp only [Prod.mk.injEq] at hb
  obtain ⟨rfl, rfl, rfl⟩ := hb
  exact ⟨rfl, h⟩
/-- The same, and all of it is safe. -/
def SafeL (X : List XL) (D : DM) : Prop := ∃ k o, D = ⟨k, fs1 o⟩ ∧ Up k ∧ K2 k ∧ (o = none ∧ X = [] ∨ o = some (setF (some topS :: (layS c0 X).map some))) ∧ ∀ x ∈ X, XOk x
theorem up_sync {X : List XL} {fs : List Fr} {D : DM} (h : UpR X fs D) {e : Int} {D' : DM} (hs : (e, D') = lsyncL D) : e = 0 ∧ UpR X fs D' ∧ SafeL X D' := by
  obtain ⟨⟨k, o, s, rfl, hu, hk, hL⟩, rfl⟩ := h
  have hs2 := hs
  obtain ⟨e', k', o', q1, q2, q3, q4, q5⟩ := lsyncP hk hL
  rw [q1] at hs
  simp only [Prod.mk.injEq] at hs
  obtain ⟨rfl, rfl⟩ := hs
  obtain ⟨u1, u2⟩ := q3 hu
  obtain ⟨r1, r2⟩ := q4 u2
  refine ⟨u2, ⟨⟨k', o', _, rfl, u1, q2, r1⟩, rfl⟩, k', o', rfl, u1, q2, ?_, hL.ok⟩
  unfold lsyncL at hs2
  cases o with
  | none => exact .inl ⟨r2.1 rfl, hL.no rfl⟩
  | some y =>
    right
    rw [size1_yes, if_neg (by omega)] at hs2
    obtain ⟨k1, hk1, ⟨e1, h3⟩ | ⟨e1, h3⟩⟩ := syncP hk y
    · rw [e1] at hs2
      simp only [Prod.mk.injEq, DM.mk.injEq] at hs2
      obtain ⟨_, _, hf⟩ := hs2
      have ho : o' = some (syncF y) := by
        have := congrArg (fun fs => findF fs logN) hf
        rw [find1, find1] at this
        exact this
      rw [ho]
      show some (setF y.now) = _
      rw [hL.yes y rfl]
    · exact absurd hu h3
theorem up_on {X : List XL} {D : DM} (h : SafeL X D) (F : List Int) : SafeL X (onD (offD D) F) := by
  obtain ⟨k, o, rfl, hu, hk, ho, hX⟩ := h
  have hd : (offD ⟨k, fs1 o⟩).k.down = true := by
    unfold offD
    dsimp only
    split
    · assumption
    · rfl
  have ha : (offD ⟨k, fs1 o⟩).k.at' = 0 := by
    unfold offD
    dsimp only
    split <;> rfl
  have hr : 100 ≤ (offD ⟨k, fs1 o⟩).k.room := by
    unfold offD
    dsimp only
    split <;> exact hk.room
  have hfs : (offD ⟨k, fs1 o⟩).fs = fs1 o := rfl
  have hsame : onO F o 0 = o := by
    rcases ho with ⟨rfl, _⟩ | rfl
    · rfl
    · exact onO_set F _ 0
  unfold onD
  rw [if_pos hd, hfs, on_fs1, hsame]
  exact ⟨_, o, rfl, ⟨rfl, ha⟩, ⟨.inr ha, hr⟩, ho, hX⟩
theorem fz_self : ∀ (now : List Cv), Fz now.length now now
  | [] => trivial
  | c :: t => ⟨rfl, fz_self t⟩
theorem up_open {X : List XL} {D : DM} (h : SafeL X D) : ∃ fs' D', openL D = ((0, fs'), D') ∧ UpR (X.take (supC X X.length)) fs' D' := by
  obtain ⟨k, o, rfl, hu, hk, ho, hX⟩ := h
  rcases ho with ⟨rfl, rfl⟩ | rfl
  · exact ⟨[], ⟨k, fs1 none⟩, rfl, ⟨k, none, 0, rfl, hu, hk, LogS.nil⟩, rfl⟩
  · have hz := fz_self (some topS :: (layS c0 X).map some)
    obtain ⟨n, k', o', r1, r2, r3, ⟨s', r4⟩, a, r5, r6, r7⟩ := open_lay hk hu hX hz (o := some (setF (some topS :: (layS c0 X).map some))) rfl (.inr ⟨_, rfl⟩)
    have ha : a = X.length := by
      rw [List.length_cons, List.length_map, layS_len] at r6
      omega
    subst ha
    rw [r5] at r1 r4
    exact ⟨_, _, r1, ⟨k', o', s', rfl, r3, r2, r4⟩, rfl⟩
theorem up_end {X : List XL} {fs : List Fr} {D : DM} (h : UpR X fs D) {e : Int} {fs' : List Fr} {D' : DM} (he : (e, fs', D') = lendL fs D) : e = 0 ∧ fs' = [] ∧ sizeD D' logN = -1 := by
  obtain ⟨⟨k, o, s, rfl, hu, hk, hL⟩, rfl⟩ := h
  unfold lendL at he
  cases o with
  | none =>
    rw [size1_no, if_pos (by decide)] at he
    simp only [Prod.mk.injEq] at he
    obtain ⟨rfl, rfl, rfl⟩ := he
    exact ⟨rfl, rfl, rfl⟩
  | some y =>
    rw [size1_yes, if_neg (by omega)] at he
    dsimp only at he
    obtain ⟨k1, hk1, ⟨e1, h3⟩ | ⟨e1, h3⟩⟩ := dropP hk y
    · rw [e1] at he
      dsimp only at he
      rw [if_neg (by simp)] at he
      simp only [Prod.mk.injEq] at he
      obtain ⟨rfl, rfl, rfl⟩ := he
      exact ⟨rfl, rfl, rfl⟩
    · exact absurd hu h3
end Go.Proofs.YtcojbjakopkfbaaGreat
