/- The log's calls as functions (the model); what a log's file holds, wherever the power goes; what is found of it again. No program in sight. The log's methods: their walks. The log's methods: Open, Add, Sync, Get, Back, End. The log's methods: Sync, Get, Back, End; the law's helpers: number, page, holds. -/
import Derived.Test.YtcojbjakopkfbaaGreatDiskFs
import Derived.Test.YtcojbjakopkfbaaGreatSealWalk
import Derived.Test.YtcojbjakopkfbaaGreatDiskWriteC
import Derived.Test.YtcojbjakopkfbaaGreatDiskTotal
import Derived.Test.YtcojbjakopkfbaaGreatDiskBytes
import Derived.Test.YtcojbjakopkfbaaGreatEngX
namespace Go.Proofs.YtcojbjakopkfbaaGreat
open Go.RowKit
set_option linter.unusedSimpArgs false
set_option linter.unusedVariables false
def pgS (n : Nat) (b : Int) : ByteArray := strOf (List.replicate n (UInt8.ofNat b.toNat))
theorem pgS_size (n : Nat) (b : Int) : (pgS n b).size = n := by unfold pgS; rw [strOf_size, List.length_replicate]
theorem right_up {i : Int} {d : ByteArray} (hi : 0 ≤ i) (hd : d.size = 256) : (decide (0 ≤ i) && decide (d.size = 256)) = true := by rw [decide_eq_true hi, decide_eq_true hd]; rfl
theorem find_one {s : ByteArray} {X : Fl} : findF [(s, X)] s = some X := by rw [find_cons, if_pos rfl]
theorem put_one {s : ByteArray} {X Y : Fl} : putF [(s, X)] s Y = [(s, Y)] := put_cons_eq
theorem up_ok {D : DM} {n : Int} (h : D.OkN n) (hn : n ≤ 1000000000) : D.Ok := h.ok (Int.lt_of_le_of_lt hn (by decide))
abbrev logN : ByteArray := ⟨#[108, 111, 103]⟩
theorem log_good : goodName logN = true := by decide
abbrev Fr := Int × Int × Bool
noncomputable def topS : ByteArray := closeS 4 1 0 (strOf (List.replicate 232 0))
def sumS (s : ByteArray) : Int := (sumAt (bytesOf s) : Nat)
theorem sumS_u (s : ByteArray) : U64 (sumS s) := by
 have := sumAt_lt (bytesOf s)
 unfold sumS U64
 omega
noncomputable def sumL (fs : List Fr) : Int := match fs.getLast? with | none => sumS topS | some f => f.2.1
noncomputable def rightR (c : Int) (s : ByteArray) : Option Fr := by
 classical exact if openE s = 0 ∧ ((kindAt (bytesOf s) : Nat) = 5 ∨ (kindAt (bytesOf s) : Nat) = 6) ∧ (numberAt (bytesOf s) : Nat) < 4096 ∧ ((saltAt (bytesOf s) : Nat) : Int) = c then some (((numberAt (bytesOf s) : Nat) : Int), sumS s, decide (kindAt (bytesOf s) = 6)) else none
def putI : List (Int × Int) → Int → Int → List (Int × Int)
 | [], n, v => [(n, v)]
 | q :: r, n, v => if q.1 = n then (n, v) :: r else q :: putI r n v
def lastF : Nat → List (Int × Int) → List Fr → List (Int × Int)
 | _, M, [] => M
 | i, M, f :: r => lastF (i + 1) (putI M f.1 (i : Nat)) r
def lastM (fs : List Fr) : List (Int × Int) := lastF 0 [] fs
theorem lastF_snoc : ∀ (l : List Fr) (i : Nat) (M : List (Int × Int)) (f : Fr), lastF i M (l ++ [f]) = putI (lastF i M l) f.1 ((i + l.length : Nat) : Int)
 | [], i, M, f => rfl
 | g :: l, i, M, f => by
  show lastF (i + 1) (putI M g.1 (i : Nat)) (l ++ [f]) = _
  rw [lastF_snoc l (i + 1), List.length_cons, show i + 1 + l.length = i + (l.length + 1) by omega]
  rfl
theorem lastM_snoc (l : List Fr) (f : Fr) : lastM (l ++ [f]) = putI (lastM l) f.1 ((l.length : Nat) : Int) := by
 unfold lastM
 rw [lastF_snoc, Nat.zero_add]
def lookI (M : List (Int × Int)) (n : Int) : Option Int := (M.find? fun q => q.1 == n).map fun q => q.2
theorem look_put : ∀ {M : List (Int × Int)} {n v m : Int}, lookI (putI M n v) m = if m = n then some v else lookI M m
 | [], n, v, m => by
  unfold lookI putI
  by_cases h : m = n
  · subst h; simp
  · rw [if_neg h, List.find?_cons, show (n == m) = false by simpa using fun e => h e.symm]
 | q :: r, n, v, m => by
  have ih := look_put (M := r) (n := n) (v := v) (m := m)
  unfold lookI at ih ⊢
  unfold putI
  by_cases hq : q.1 = n
  · rw [if_pos hq]
    by_cases h : m = n
    · subst h; simp
    · rw [if_neg h, List.find?_cons, show (n == m) = false by simpa using fun e => h e.symm, List.find?_cons, show (q.1 == m) = false by rw [hq]; simpa using fun e => h e.symm]
  · rw [if_neg hq, List.find?_cons, List.find?_cons]
    by_cases hm : q.1 = m
    · rw [show (q.1 == m) = true by simpa using hm, if_neg (fun e => hq (hm.trans e))]
    · rw [show (q.1 == m) = false by simpa using hm]; exact ih
theorem putI_len : ∀ (M : List (Int × Int)) (n v : Int), (putI M n v).length ≤ M.length + 1
 | [], _, _ => Nat.le_refl _
 | q :: r, n, v => by
  unfold putI
  split
  · simp
  · have := putI_len r n v; simp only [List.length_cons]; omega
def trimR : List Fr → List Fr
 | [] => []
 | f :: r => match trimR r, f.2.2 with | [], false => [] | t, _ => f :: t
noncomputable def readL : Nat → Nat → List Fr → DM → (Bool × Int × List Fr) × DM
 | 0, _, fs, D => ((decide (0 < sizeD D logN), 0, fs), D)
 | m + 1, i, fs, D => by
  classical exact
  let r := readD D logN (i : Nat)
  if r.1.2 = 13 then ((decide (0 < i), 0, fs), r.2)
  else if r.1.2 ≠ 0 then ((false, r.1.2, fs), r.2)
  else if i = 0 then (if r.1.1 = topS then readL m 1 fs r.2 else ((false, 0, fs), r.2))
  else match rightR (sumL fs) r.1.1 with
   | none => ((decide (0 < sizeD r.2 logN), 0, fs), r.2)
   | some f => readL m (i + 1) (fs ++ [f]) r.2
noncomputable def openR (r : (Bool × Int × List Fr) × DM) : (Int × List Fr) × DM :=
 if r.1.2.1 ≠ 0 then ((r.1.2.1, []), r.2)
 else if r.1.1 = false then ((((dropD r.2 logN).1, []), (dropD r.2 logN).2))
 else if (1 + (trimR r.1.2.2).length : Int) < sizeD r.2 logN then
  (if (cutD r.2 logN (1 + (trimR r.1.2.2).length)).1 ≠ 0 then (((cutD r.2 logN (1 + (trimR r.1.2.2).length)).1, []), (cutD r.2 logN (1 + (trimR r.1.2.2).length)).2)
   else ((0, trimR r.1.2.2), (cutD r.2 logN (1 + (trimR r.1.2.2).length)).2))
 else ((0, trimR r.1.2.2), r.2)
noncomputable def openL (D : DM) : (Int × List Fr) × DM := if sizeD D logN < 0 then ((0, []), D) else openR (readL (sizeD D logN).toNat 0 [] D)
def kindL (commit : Bool) : Int := if commit then 6 else 5
noncomputable def addL (fs : List Fr) (D : DM) (n : Int) (data : ByteArray) (commit : Bool) : Int × List Fr × DM :=
 if n < 0 ∨ 4096 ≤ n ∨ data.size ≠ 232 then (1, fs, D)
 else
  let t := if sizeD D logN < 0 then writeD D logN 0 topS else (0, D)
  if t.1 ≠ 0 then (t.1, fs, t.2)
  else if closeE (kindL commit) n data ≠ 0 then (closeE (kindL commit) n data, fs, t.2)
  else
   let s := closeS (kindL commit) n (sumL fs).toNat data
   let w := writeD t.2 logN (1 + fs.length) s
   if w.1 ≠ 0 then (w.1, fs, w.2) else (0, fs ++ [(n, sumS s, commit)], w.2)
noncomputable def lsyncL (D : DM) : Int × DM := if sizeD D logN < 0 then (0, D) else syncD D logN
noncomputable def getL (fs : List Fr) (D : DM) (n : Int) : (ByteArray × Bool × Int) × DM :=
 match lookI (lastM fs) n with
 | none => ((⟨#[]⟩, false, 0), D)
 | some i =>
  let r := readD D logN (1 + i)
  if r.1.2 ≠ 0 then ((⟨#[]⟩, false, r.1.2), r.2) else ((r.1.1.extract 0 232, true, 0), r.2)
noncomputable def lbackL (fs : List Fr) (D : DM) (k : Int) : Int × List Fr × DM :=
 if k < 0 ∨ (fs.length : Int) < k then (1, fs, D)
 else if k = fs.length then (0, fs, D)
 else
  let c := cutD D logN (1 + k)
  if c.1 = 0 then (0, fs.take k.toNat, c.2) else (c.1, fs, c.2)
noncomputable def lendL (fs : List Fr) (D : DM) : Int × List Fr × DM :=
 if sizeD D logN < 0 then (0, [], D)
 else
  let d := dropD D logN
  if d.1 ≠ 0 then (d.1, fs, d.2) else (0, [], d.2)
theorem readL_okN : ∀ (m i : Nat) (fs : List Fr) {D : DM} {n : Int}, D.OkN n → (readL m i fs D).2.OkN (n + m)
 | 0, i, fs, D, n, h => h.mono (by simp)
 | m + 1, i, fs, D, n, h => by
  have hr := read_okN h logN (i : Nat)
  unfold readL
  dsimp only
  split
  · exact hr.mono (by omega)
  · split
    · exact hr.mono (by omega)
    · split
      · split
        · exact (readL_okN m 1 fs hr).mono (by omega)
        · exact hr.mono (by omega)
      · cases rightR (sumL fs) (readD D logN (i : Nat)).1.1 with
        | none => exact hr.mono (by omega)
        | some f => exact (readL_okN m (i + 1) (fs ++ [f]) hr).mono (by omega)
theorem openL_okN {D : DM} {n : Int} (h : D.OkN n) {z : Nat} (hz : (sizeD D logN).toNat ≤ z) : (openL D).2.OkN (n + z + 1) := by
 have hr := readL_okN (sizeD D logN).toNat 0 [] h
 unfold openL
 split
 · exact h.mono (by omega)
 · generalize readL (sizeD D logN).toNat 0 [] D = r at hr ⊢
   unfold openR
   split
   · exact hr.mono (by omega)
   · split
     · exact (drop_okN hr logN).mono (by omega)
     · split
       · split
         · exact (cut_okN hr logN _).mono (by omega)
         · exact (cut_okN hr logN _).mono (by omega)
       · exact hr.mono (by omega)
theorem addL_okN {D : DM} {m : Int} (h : D.OkN m) (fs : List Fr) (n : Int) (data : ByteArray) (commit : Bool) : (addL fs D n data commit).2.2.OkN (m + 2) := by
 have ht : (if sizeD D logN < 0 then writeD D logN 0 topS else (0, D)).2.OkN (m + 1) := by
  split
  · exact write_okN h _ _ _
  · exact h.mono (by omega)
 unfold addL
 split
 · exact h.mono (by omega)
 · dsimp only
   generalize (if sizeD D logN < 0 then writeD D logN 0 topS else (0, D)) = t at ht ⊢
   split
   · exact ht.mono (by omega)
   · split
     · exact ht.mono (by omega)
     · split
       · exact (write_okN ht _ _ _).mono (by omega)
       · exact (write_okN ht _ _ _).mono (by omega)
theorem lsyncL_okN {D : DM} {m : Int} (h : D.OkN m) : (lsyncL D).2.OkN (m + 1) := by
 unfold lsyncL
 split
 · exact h.mono (by omega)
 · exact sync_okN h logN
theorem getL_okN {D : DM} {m : Int} (h : D.OkN m) (fs : List Fr) (n : Int) : (getL fs D n).2.OkN (m + 1) := by
 unfold getL
 cases lookI (lastM fs) n with
 | none => exact h.mono (by omega)
 | some i => dsimp only; split <;> exact read_okN h logN (1 + i)
theorem lbackL_okN {D : DM} {m : Int} (h : D.OkN m) (fs : List Fr) (k : Int) : (lbackL fs D k).2.2.OkN (m + 1) := by
 unfold lbackL
 split
 · exact h.mono (by omega)
 · split
   · exact h.mono (by omega)
   · dsimp only; split <;> exact cut_okN h logN _
theorem lendL_okN {D : DM} {m : Int} (h : D.OkN m) (fs : List Fr) : (lendL fs D).2.2.OkN (m + 1) := by
 unfold lendL
 split
 · exact h.mono (by omega)
 · dsimp only; split <;> exact drop_okN h logN
end Go.Proofs.YtcojbjakopkfbaaGreat
namespace Go.Proofs.YtcojbjakopkfbaaGreat
open Go.RowKit
set_option linter.unusedSimpArgs false
set_option linter.unusedVariables false
abbrev XL := Int × ByteArray × Bool
structure XOk (x : XL) : Prop where
 n : 0 ≤ x.1 ∧ x.1 < 4096
 d : x.2.1.size = 232
noncomputable def secX (c : Int) (x : XL) : ByteArray := closeS (kindL x.2.2) x.1 c.toNat x.2.1
noncomputable def frX (c : Int) (x : XL) : Fr := (x.1, sumS (secX c x), x.2.2)
noncomputable def layF : Int → List XL → List Fr
 | _, [] => []
 | c, x :: r => frX c x :: layF (sumS (secX c x)) r
noncomputable def layS : Int → List XL → List ByteArray
 | _, [] => []
 | c, x :: r => secX c x :: layS (sumS (secX c x)) r
noncomputable def endC : Int → List XL → Int
 | c, [] => c
 | c, x :: r => endC (sumS (secX c x)) r
theorem layF_len : ∀ (c : Int) (X : List XL), (layF c X).length = X.length
 | _, [] => rfl
 | c, x :: r => by show (layF _ r).length + 1 = _; rw [layF_len]; rfl
theorem layS_len : ∀ (c : Int) (X : List XL), (layS c X).length = X.length
 | _, [] => rfl
 | c, x :: r => by show (layS _ r).length + 1 = _; rw [layS_len]; rfl
theorem layF_snoc : ∀ (c : Int) (X : List XL) (x : XL), layF c (X ++ [x]) = layF c X ++ [frX (endC c X) x]
 | _, [], _ => rfl
 | c, y :: r, x => by show frX c y :: layF _ (r ++ [x]) = _; rw [layF_snoc]; rfl
theorem layS_snoc : ∀ (c : Int) (X : List XL) (x : XL), layS c (X ++ [x]) = layS c X ++ [secX (endC c X) x]
 | _, [], _ => rfl
 | c, y :: r, x => by show secX c y :: layS _ (r ++ [x]) = _; rw [layS_snoc]; rfl
theorem layF_take : ∀ (c : Int) (X : List XL) (k : Nat), (layF c X).take k = layF c (X.take k)
 | _, _, 0 => by rw [List.take_zero, List.take_zero]; rfl
 | _, [], _ + 1 => rfl
 | c, x :: r, k + 1 => by show frX c x :: (layF _ r).take k = _; rw [layF_take]; rfl
theorem layS_take : ∀ (c : Int) (X : List XL) (k : Nat), (layS c X).take k = layS c (X.take k)
 | _, _, 0 => by rw [List.take_zero, List.take_zero]; rfl
 | _, [], _ + 1 => rfl
 | c, x :: r, k + 1 => by show secX c x :: (layS _ r).take k = _; rw [layS_take]; rfl
theorem endC_u : ∀ {c : Int} (X : List XL), U64 c → U64 (endC c X)
 | _, [], h => h
 | _, _ :: r, _ => endC_u r (sumS_u _)
theorem layF_last : ∀ (c : Int) (X : List XL), (match (layF c X).getLast? with | none => c | some f => f.2.1) = endC c X
 | _, [] => rfl
 | c, [x] => rfl
 | c, x :: y :: r => by
  have ih := layF_last (sumS (secX c x)) (y :: r)
  show (match (frX c x :: layF (sumS (secX c x)) (y :: r)).getLast? with | none => c | some f => f.2.1) = endC (sumS (secX c x)) (y :: r)
  rw [← ih]
  have e : (frX c x :: layF (sumS (secX c x)) (y :: r)).getLast? = (layF (sumS (secX c x)) (y :: r)).getLast? := rfl
  rw [e]
  cases hl : (layF (sumS (secX c x)) (y :: r)).getLast? with
  | none => exact absurd (List.getLast?_eq_none_iff.1 hl) (by simp [layF])
  | some f => rfl
noncomputable def c0 : Int := sumS topS
theorem c0_u : U64 c0 := sumS_u _
theorem sumL_lay (X : List XL) : sumL (layF c0 X) = endC c0 X := layF_last c0 X
theorem kindL_b (b : Bool) : 0 ≤ kindL b ∧ kindL b < 4294967296 := by cases b <;> decide
theorem closed_ok {k n : Int} {s : Nat} {d : ByteArray} (hk : 0 ≤ k ∧ k < 4294967296) (hn : 0 ≤ n ∧ n < 4294967296) (hd : d.size = 232) : closeE k n d = 0 ∧ (closeS k n s d).size = 256 := by
 have hok : sealOk k n (bytesOf d) = true := sealOk_iff.2 ⟨hk, hn, by rw [bytesOf_length]; exact hd⟩
 unfold closeE closeS
 rw [if_pos hok, if_pos hok]
 exact ⟨rfl, by rw [strOf_size, sealL_length (by rw [bytesOf_length]; exact hd)]⟩
theorem sec_is {c : Int} {x : XL} (h : XOk x) (hc : U64 c) : closeE (kindL x.2.2) x.1 x.2.1 = 0 ∧ (secX c x).size = 256 ∧ rightR c (secX c x) = some (frX c x) ∧ (secX c x).extract 0 232 = x.2.1 := by
 have hn := h.n
 have hk := kindL_b x.2.2
 have hok : sealOk (kindL x.2.2) x.1 (bytesOf x.2.1) = true := sealOk_iff.2 ⟨hk, by omega, by rw [bytesOf_length]; exact h.d⟩
 have hlt : c.toNat < 18446744073709551616 := by have := hc.2; omega
 obtain ⟨h1, h2, h3, h4, h5⟩ := seal_open hok hlt
 have e : secX c x = strOf (sealL (kindL x.2.2) x.1 c.toNat (bytesOf x.2.1)) := by unfold secX closeS; rw [if_pos hok]
 have h6 := (closed_ok (s := c.toNat) hk (show 0 ≤ x.1 ∧ x.1 < 4294967296 by omega) h.d)
 refine ⟨h6.1, h6.2, ?_, ?_⟩
 · unfold rightR frX
   have hb : bytesOf (secX c x) = sealL (kindL x.2.2) x.1 c.toNat (bytesOf x.2.1) := by rw [e, bytesOf_strOf]
   have ho : openE (secX c x) = 0 := by unfold openE; rw [hb, if_pos h1]
   have hkk : (kindAt (bytesOf (secX c x)) : Int) = kindL x.2.2 := by rw [hb]; exact h3
   have hnn : (numberAt (bytesOf (secX c x)) : Int) = x.1 := by rw [hb]; exact h4
   have hss : ((saltAt (bytesOf (secX c x)) : Nat) : Int) = c := by rw [hb, h5]; have := hc.1; omega
   have hk2 : kindAt (bytesOf (secX c x)) = if x.2.2 then 6 else 5 := by
    unfold kindL at hkk
    cases hx : x.2.2 with
    | true => rw [hx] at hkk; simp only [if_true] at hkk ⊢; omega
    | false => rw [hx] at hkk; simp only [Bool.false_eq_true, if_false] at hkk ⊢; omega
   rw [if_pos ⟨ho, by rw [hk2]; cases x.2.2 <;> simp, by omega, hss⟩, hnn, hk2]
   cases x.2.2 <;> rfl
 · rw [← bytesOf_inj, bytesOf_extract, List.drop_zero, e, bytesOf_strOf, h2]
theorem top_size : topS.size = 256 := (closed_ok (s := 0) (k := 4) (n := 1) (by decide) (by decide) (by rw [strOf_size, List.length_replicate])).2
theorem zero_right (c : Int) : rightR c zero256 = none := by
 have hk : kindAt (bytesOf zero256) = 0 := by unfold kindAt zero256; rw [bytesOf_strOf]; decide +kernel
 unfold rightR
 rw [if_neg]
 rintro ⟨_, h, _⟩
 rw [hk] at h
 omega
noncomputable def rdLG : List Cv → Int → List Fr
 | [], _ => []
 | none :: _, _ => []
 | some d :: r, c => match rightR c d with | none => [] | some f => f :: rdLG r f.2.1
theorem rd_lay : ∀ {c : Int} {X : List XL}, U64 c → (∀ x ∈ X, XOk x) → rdLG ((layS c X).map some) c = layF c X
 | _, [], _, _ => rfl
 | c, x :: r, hc, hX => by
  obtain ⟨_, _, h, _⟩ := sec_is (hX x List.mem_cons_self) hc
  show (match rightR c (secX c x) with | none => [] | some f => f :: rdLG ((layS (sumS (secX c x)) r).map some) f.2.1) = _
  rw [h]
  show frX c x :: rdLG ((layS (sumS (secX c x)) r).map some) (sumS (secX c x)) = _
  rw [rd_lay (sumS_u _) fun y hy => hX y (List.mem_cons_of_mem _ hy)]
  rfl
theorem rd_take {c : Int} {X : List XL} (hc : U64 c) (hX : ∀ x ∈ X, XOk x) (k : Nat) : rdLG (((layS c X).map some).take k) c = layF c (X.take k) := by
 rw [← List.map_take, layS_take, rd_lay hc fun x hx => hX x (List.mem_of_mem_take hx)]
def Fz : Nat → List Cv → List Cv → Prop
 | 0, _, [] => True
 | 0, [], _ :: _ => False
 | 0, n :: ns, c :: t => (c = n ∨ c = none ∨ c = some zero256) ∧ Fz 0 ns t
 | s + 1, n :: ns, c :: t => c = n ∧ Fz s ns t
 | _ + 1, [], _ => False
 | _ + 1, _ :: _, [] => False
theorem Fz.len : ∀ {s : Nat} {now t : List Cv}, Fz s now t → s ≤ now.length ∧ s ≤ t.length ∧ t.length ≤ now.length
 | 0, _, [], _ => ⟨Nat.zero_le _, Nat.zero_le _, Nat.zero_le _⟩
 | 0, [], _ :: _, h => h.elim
 | 0, n :: ns, c :: t, h => ⟨Nat.zero_le _, Nat.zero_le _, Nat.succ_le_succ (Fz.len h.2).2.2⟩
 | s + 1, n :: ns, c :: t, h => ⟨Nat.succ_le_succ (Fz.len h.2).1, Nat.succ_le_succ (Fz.len h.2).2.1, Nat.succ_le_succ (Fz.len h.2).2.2⟩
 | _ + 1, [], _, h => h.elim
 | _ + 1, _ :: _, [], h => h.elim
theorem rd_fz : ∀ {s : Nat} {now t : List Cv} (c : Int), Fz s now t → ∃ k, s ≤ k ∧ k ≤ now.length ∧ rdLG t c = rdLG (now.take k) c ∧ t.take (rdLG t c).length = now.take (rdLG t c).length
 | 0, now, [], c, _ => ⟨0, Nat.le_refl _, Nat.zero_le _, by rw [List.take_zero], by show [].take 0 = now.take 0; rw [List.take_zero]; rfl⟩
 | 0, [], _ :: _, _, h => h.elim
 | 0, n :: ns, e :: t, c, h => by
  have stop : rdLG (e :: t) c = [] → ∃ k, 0 ≤ k ∧ k ≤ (n :: ns).length ∧ rdLG (e :: t) c = rdLG ((n :: ns).take k) c ∧ (e :: t).take (rdLG (e :: t) c).length = (n :: ns).take (rdLG (e :: t) c).length := fun q => ⟨0, Nat.le_refl _, Nat.zero_le _, q.trans rfl, by rw [q]; rfl⟩
  rcases h.1 with q | q | q
  · subst q
    cases e with
    | none => exact stop rfl
    | some d =>
     cases hs : rightR c d with
     | none => exact stop (by simp only [rdLG, hs])
     | some f =>
      obtain ⟨k, h1, h2, h3, h4⟩ := rd_fz f.2.1 h.2
      have e1 : rdLG (some d :: t) c = f :: rdLG t f.2.1 := by simp only [rdLG, hs]
      exact ⟨k + 1, Nat.zero_le _, Nat.succ_le_succ h2, by rw [e1, List.take_succ_cons]; simp only [rdLG, hs]; rw [h3], by rw [e1, List.length_cons, List.take_succ_cons, List.take_succ_cons, h4]⟩
  · subst q; exact stop rfl
  · subst q; exact stop (by simp only [rdLG, zero_right])
 | s + 1, n :: ns, e :: t, c, h => by
  obtain ⟨q, h2⟩ := h
  have hl := h2.len
  subst q
  have stop : rdLG (e :: t) c = [] → rdLG (e :: ns) c = [] → ∃ k, s + 1 ≤ k ∧ k ≤ (e :: ns).length ∧ rdLG (e :: t) c = rdLG ((e :: ns).take k) c ∧ (e :: t).take (rdLG (e :: t) c).length = (e :: ns).take (rdLG (e :: t) c).length := fun q q' => ⟨(e :: ns).length, Nat.succ_le_succ hl.1, Nat.le_refl _, by rw [List.take_length, q, q'], by rw [q]; rfl⟩
  cases e with
  | none => exact stop rfl rfl
  | some d =>
   cases hs : rightR c d with
   | none => exact stop (by simp only [rdLG, hs]) (by simp only [rdLG, hs])
   | some f =>
    obtain ⟨k, h1, h3, h4, h5⟩ := rd_fz f.2.1 h2
    have e1 : rdLG (some d :: t) c = f :: rdLG t f.2.1 := by simp only [rdLG, hs]
    exact ⟨k + 1, Nat.succ_le_succ h1, Nat.succ_le_succ h3, by rw [e1, List.take_succ_cons]; simp only [rdLG, hs]; rw [h4], by rw [e1, List.length_cons, List.take_succ_cons, List.take_succ_cons, h5]⟩
 | _ + 1, [], _, _, h => h.elim
 | _ + 1, _ :: _, [], _, h => h.elim
theorem trim_some (c : Cv) (r : List (Option Cv)) : trimC (some c :: r) = some c :: trimC r := by
 have e : trimC (some c :: r) = (match trimC r, some c with | [], none => [] | t, c => c :: t) := rfl
 rw [e]
 cases trimC r <;> rfl
def setF (t : List Cv) : Fl := ⟨t, t.map some, List.replicate t.length false, true⟩
def onT (l : List Int) (x : Fl) (u : Nat) : List Cv := (trimC (fates l x.now x.safe x.wait u).1).map fillC
noncomputable def onO (l : List Int) (o : Option Fl) (u : Nat) : Option Fl := match o with | none => none | some x => by classical exact if onT l x u = [] ∧ x.sure = false then none else some (setF (onT l x u))
def fs1 (o : Option Fl) : Fs := match o with | none => [] | some y => [(logN, y)]
theorem trim_all : ∀ (t : List Cv), trimC (t.map some) = t.map some
 | [] => rfl
 | c :: t => by rw [List.map_cons, trim_some, trim_all t]
def nowO (o : Option Fl) : List Cv := match o with | none => [] | some y => y.now
def lenO (o : Option Fl) : Nat := (nowO o).length
structure YF (y : Fl) (s : Nat) : Prop where
 safe : y.safe = (y.now.take s).map some ++ List.replicate (y.now.length - s) none
 wait : y.wait = List.replicate s false ++ List.replicate (y.now.length - s) true
theorem YF.set (t : List Cv) : YF (setF t) t.length := ⟨by unfold setF; simp, by unfold setF; simp⟩
theorem YF.sync (y : Fl) : YF (syncF y) y.now.length := YF.set y.now
structure K2 (k : Dk) : Prop where
 kind : k.kind = 2 ∨ k.at' = 0
 room : 100 ≤ k.room
def Up (k : Dk) : Prop := k.down = false ∧ k.at' = 0
theorem beg2 {k : Dk} (h : K2 k) {s : ByteArray} (hs : goodName s = true) : ∃ k', K2 k' ∧ ((begS k s true = (0, k') ∧ (Up k → Up k')) ∨ (begS k s true = (10, k') ∧ ¬ Up k)) := by
 unfold begS
 rw [if_neg (by rw [hs]; simp)]
 split
 · rename_i hd
   exact ⟨k, h, .inr ⟨rfl, fun hu => by rw [hu.1] at hd; cases hd⟩⟩
 · rename_i hd
   split
   · rename_i ha
     exact ⟨{ k with ops := k.ops + 1 }, ⟨.inr ha, h.room⟩, .inl ⟨rfl, fun hu => hu⟩⟩
   · rename_i ha
     have hk : k.kind = 2 := h.kind.resolve_right ha
     split
     · exact ⟨{ k with ops := k.ops + 1, at' := k.at' - 1 }, ⟨.inl hk, h.room⟩, .inl ⟨rfl, fun hu => absurd hu.2 ha⟩⟩
     · try rw [if_pos hk]
       exact ⟨{ k with ops := k.ops + 1, down := true, life := k.life + 1, at' := 0 }, ⟨.inr rfl, h.room⟩, .inr ⟨rfl, fun hu => ha hu.2⟩⟩
theorem found2 {k : Dk} (h : K2 k) {fs : Fs} {s : ByteArray} (hs : goodName s = true) : ∃ k', K2 k' ∧ (((∃ x, findF fs s = some x) ∧ foundD ⟨k, fs⟩ s true = (0, ⟨k', fs⟩) ∧ (Up k → Up k')) ∨ (findF fs s = none ∧ foundD ⟨k, fs⟩ s true = (14, ⟨k', fs⟩) ∧ (Up k → Up k')) ∨ (foundD ⟨k, fs⟩ s true = (10, ⟨k', fs⟩) ∧ ¬ Up k)) := by
 obtain ⟨k', h1, ⟨h2, h3⟩ | ⟨h2, h3⟩⟩ := beg2 h hs
 · cases hf : findF fs s with
   | none => exact ⟨k', h1, .inr (.inl ⟨rfl, by unfold foundD; dsimp only; rw [h2, hf]; rfl, h3⟩)⟩
   | some x => exact ⟨k', h1, .inl ⟨⟨x, rfl⟩, by unfold foundD; dsimp only; rw [h2, hf]; rfl, h3⟩⟩
 · exact ⟨k', h1, .inr (.inr ⟨by unfold foundD; dsimp only; rw [h2]; rfl, h3⟩)⟩
section
variable {k k' : Dk} {fs : Fs} {s d : ByteArray}
theorem writeP_err {i : Int} (h0 : foundD ⟨k, fs⟩ s true = (10, ⟨k', fs⟩)) (hi : 0 ≤ i) (hd : d.size = 256) : writeD ⟨k, fs⟩ s i d = (10, ⟨k', fs⟩) := by
 unfold writeD
 rw [right_up hi hd, h0]
 rfl
theorem syncP_err (h0 : foundD ⟨k, fs⟩ s true = (10, ⟨k', fs⟩)) : syncD ⟨k, fs⟩ s = (10, ⟨k', fs⟩) := by
 unfold syncD
 rw [h0]
 rfl
end
theorem find1 (o : Option Fl) : findF (fs1 o) logN = o := by
 cases o with
 | none => rfl
 | some y => exact find_one
theorem put1 (o : Option Fl) (y : Fl) : putF (fs1 o) logN y = fs1 (some y) := by
 cases o with
 | none => rfl
 | some z => exact put_one
theorem del1 (o : Option Fl) : delF (fs1 o) logN = fs1 none := by
 cases o with
 | none => rfl
 | some y => unfold delF fs1; simp
theorem total1 (o : Option Fl) : total (fs1 o) = lenO o := by cases o <;> simp [total, fs1, lenO, nowO]
theorem fs1_len (o : Option Fl) : (fs1 o).length ≤ 1 := by cases o <;> simp [fs1]
theorem size1_no (k : Dk) : sizeD ⟨k, fs1 none⟩ logN = -1 := rfl
theorem size1_yes (k : Dk) (y : Fl) : sizeD ⟨k, fs1 (some y)⟩ logN = (y.now.length : Nat) := by unfold sizeD; rw [find1]
def addO (o : Option Fl) (d : ByteArray) : Fl := match o with | none => ⟨[some d], [none], [true], false⟩ | some y => { y with now := y.now ++ [some d], safe := y.safe ++ [none], wait := y.wait ++ [true] }
theorem addO_now (o : Option Fl) (d : ByteArray) : (addO o d).now = nowO o ++ [some d] := by cases o <;> rfl
section
variable {k : Dk} (h : K2 k)
include h
theorem writeP (o : Option Fl) {d : ByteArray} (hd : d.size = 256) (hr : lenO o < 100) :
 ∃ k', K2 k' ∧ ((writeD ⟨k, fs1 o⟩ logN ((lenO o : Nat) : Int) d = (0, ⟨k', fs1 (some (addO o d))⟩) ∧ (Up k → Up k')) ∨ (writeD ⟨k, fs1 o⟩ logN ((lenO o : Nat) : Int) d = (10, ⟨k', fs1 o⟩) ∧ ¬ Up k)) := by
 obtain ⟨k', h1, h2⟩ := found2 h (fs := fs1 o) log_good
 have hroom : ((total (fs1 o) : Nat) : Int) < k'.room := by rw [total1]; have := h1.room; omega
 refine ⟨k', h1, ?_⟩
 rcases h2 with ⟨⟨x, hx⟩, h2, h3⟩ | ⟨hx, h2, h3⟩ | ⟨h2, h3⟩
 · rw [find1] at hx
   subst hx
   refine .inl ⟨?_, h3⟩
   unfold writeD
   rw [right_up (Int.natCast_nonneg _) hd, h2, find1]
   dsimp only [Option.getD_some]
   have hl : lenO (some x) = x.now.length := rfl
   rw [if_neg (by simp), if_neg (by omega), if_neg, put1, Int.toNat_natCast]
   · have hw : writeF x (lenO (some x)) d = addO (some x) d := by unfold writeF; rw [if_pos hl]; rfl
     rw [hw]
   · rintro (⟨h, _⟩ | ⟨h, h'⟩)
     · cases h
     · omega
 · rw [find1] at hx
   subst hx
   refine .inl ⟨?_, h3⟩
   have hl : lenO none = 0 := rfl
   unfold writeD
   rw [right_up (Int.natCast_nonneg _) hd, h2, find1]
   dsimp only [Option.getD_none]
   rw [hl, if_neg (by simp), if_neg (show ¬ ((fl0.now.length : Int) < ((0 : Nat) : Int)) by decide), if_neg, put1]
   · rfl
   · have := fs1_len none
     rintro (⟨_, h⟩ | ⟨_, h⟩) <;> omega
 · exact .inr ⟨writeP_err h2 (Int.natCast_nonneg _) hd, h3⟩
theorem syncP (y : Fl) : ∃ k', K2 k' ∧ ((syncD ⟨k, fs1 (some y)⟩ logN = (0, ⟨k', fs1 (some (syncF y))⟩) ∧ (Up k → Up k')) ∨ (syncD ⟨k, fs1 (some y)⟩ logN = (10, ⟨k', fs1 (some y)⟩) ∧ ¬ Up k)) := by
 obtain ⟨k', h1, h2⟩ := found2 h (fs := fs1 (some y)) log_good
 refine ⟨k', h1, ?_⟩
 rcases h2 with ⟨_, h2, h3⟩ | ⟨hx, h2, h3⟩ | ⟨h2, h3⟩
 · refine .inl ⟨?_, h3⟩
   unfold syncD
   rw [h2, find1]
   dsimp only [Option.getD_some]
   rw [if_neg (by simp), put1]
 · rw [find1] at hx; cases hx
 · exact .inr ⟨syncP_err h2, h3⟩
theorem cutP (y : Fl) {n : Nat} (hn : n ≤ y.now.length) : ∃ k', K2 k' ∧ ((cutD ⟨k, fs1 (some y)⟩ logN (n : Nat) = (0, ⟨k', fs1 (some (cutF y n))⟩) ∧ (Up k → Up k')) ∨ (cutD ⟨k, fs1 (some y)⟩ logN (n : Nat) = (10, ⟨k', fs1 (some y)⟩) ∧ ¬ Up k)) := by
 obtain ⟨k', h1, h2⟩ := found2 h (fs := fs1 (some y)) log_good
 refine ⟨k', h1, ?_⟩
 unfold cutD
 rw [decide_eq_true (Int.natCast_nonneg n)]
 rcases h2 with ⟨_, h2, h3⟩ | ⟨hx, h2, h3⟩ | ⟨h2, h3⟩
 · refine .inl ⟨?_, h3⟩
   rw [h2, find1]
   dsimp only [Option.getD_some]
   rw [if_neg (by simp), if_neg (by omega), put1, Int.toNat_natCast]
 · rw [find1] at hx; cases hx
 · refine .inr ⟨?_, h3⟩
   rw [h2]
   rfl
theorem dropP (y : Fl) : ∃ k', K2 k' ∧ ((dropD ⟨k, fs1 (some y)⟩ logN = (0, ⟨k', fs1 none⟩) ∧ (Up k → Up k')) ∨ (dropD ⟨k, fs1 (some y)⟩ logN = (10, ⟨k', fs1 (some y)⟩) ∧ ¬ Up k)) := by
 obtain ⟨k', h1, h2⟩ := found2 h (fs := fs1 (some y)) log_good
 refine ⟨k', h1, ?_⟩
 unfold dropD
 rcases h2 with ⟨_, h2, h3⟩ | ⟨hx, h2, h3⟩ | ⟨h2, h3⟩
 · refine .inl ⟨?_, h3⟩
   rw [h2]
   dsimp only
   rw [del1]
   rfl
 · rw [find1] at hx; cases hx
 · refine .inr ⟨?_, h3⟩
   rw [h2]
   rfl
theorem readP (hu : Up k) (y : Fl) {i : Nat} (hi : i < y.now.length) : ∃ k', K2 k' ∧ Up k' ∧ readD ⟨k, fs1 (some y)⟩ logN (i : Nat) = (readC (some y.now[i]), ⟨k', fs1 (some y)⟩) := by
 obtain ⟨k', h1, h2⟩ := found2 h (fs := fs1 (some y)) log_good
 rcases h2 with ⟨_, h2, h3⟩ | ⟨hx, h2, h3⟩ | ⟨h2, h3⟩
 · refine ⟨k', h1, h3 hu, ?_⟩
   unfold readD
   rw [h2, find1]
   dsimp only [Option.getD_some]
   rw [if_neg (by simp)]
   unfold readF
   rw [if_neg (by omega), Int.toNat_natCast, List.getElem?_eq_getElem hi]
 · rw [find1] at hx; cases hx
 · exact absurd hu h3
end
structure LogS (o : Option Fl) (X : List XL) (s : Nat) : Prop where
 no : o = none → X = []
 yes : ∀ y, o = some y → y.now = some topS :: (layS c0 X).map some
 yf : ∀ y, o = some y → YF y s
 sl : s ≤ lenO o
 ok : ∀ x ∈ X, XOk x
theorem LogS.len {o : Option Fl} {X : List XL} {s : Nat} (h : LogS o X s) : lenO o ≤ X.length + 1 ∧ (X ≠ [] → lenO o = X.length + 1) := by
 cases o with
 | none => exact ⟨Nat.zero_le _, fun hh => absurd (h.no rfl) hh⟩
 | some y =>
  have : lenO (some y) = X.length + 1 := by
   show y.now.length = _
   rw [h.yes y rfl, List.length_cons, List.length_map, layS_len]
  exact ⟨by omega, fun _ => this⟩
theorem YF.add {o : Option Fl} {s : Nat} (h : ∀ y, o = some y → YF y s) (hs : s ≤ lenO o) (d : ByteArray) : YF (addO o d) s := by
 cases o with
 | none =>
  obtain rfl : s = 0 := Nat.le_zero.1 hs
  exact ⟨rfl, rfl⟩
 | some y =>
  obtain ⟨h1, h2⟩ := h y rfl
  have hs' : s ≤ y.now.length := hs
  have hn : (y.now ++ [some d]).length - s = (y.now.length - s) + 1 := by rw [List.length_append, List.length_singleton]; omega
  refine ⟨?_, ?_⟩
  · show y.safe ++ [none] = ((y.now ++ [some d]).take s).map some ++ List.replicate ((y.now ++ [some d]).length - s) none
    rw [hn, List.replicate_succ', h1, List.take_append_of_le_length hs', List.append_assoc]
  · show y.wait ++ [true] = List.replicate s false ++ List.replicate ((y.now ++ [some d]).length - s) true
    rw [hn, List.replicate_succ', h2, List.append_assoc]
theorem addP {k : Dk} (h : K2 k) {o : Option Fl} {X : List XL} {s : Nat} (hL : LogS o X s) {x : XL} (hx : XOk x) (hl : X.length < 98) :
 ∃ e fs' k' o', addL (layF c0 X) ⟨k, fs1 o⟩ x.1 x.2.1 x.2.2 = (e, fs', ⟨k', fs1 o'⟩) ∧ K2 k' ∧ (Up k → Up k' ∧ e = 0) ∧ (e = 0 → fs' = layF c0 (X ++ [x]) ∧ o' ≠ none ∧ LogS o' (X ++ [x]) s) ∧ (e ≠ 0 → fs' = layF c0 X ∧ LogS o' X s) := by
 have hno : ¬ (x.1 < 0 ∨ 4096 ≤ x.1 ∨ x.2.1.size ≠ 232) := by have := hx.n; have := hx.d; omega
 unfold addL
 rw [if_neg hno]
 dsimp only
 -- the top
 obtain ⟨e1, k1, o1, t1, t2, t3, t4, t5⟩ : ∃ e1 k1 o1, (if sizeD ⟨k, fs1 o⟩ logN < 0 then writeD ⟨k, fs1 o⟩ logN 0 topS else (0, ⟨k, fs1 o⟩)) = (e1, ⟨k1, fs1 o1⟩) ∧ K2 k1 ∧ (Up k → Up k1 ∧ e1 = 0) ∧ LogS o1 X s ∧ (e1 = 0 → o1 ≠ none) := by
  cases o with
  | none =>
   rw [size1_no, if_pos (by decide)]
   have hX := hL.no rfl
   have hs0 : s = 0 := Nat.le_zero.1 hL.sl
   have hw := writeP h none top_size (by show 0 < 100; decide)
   have e0 : ((lenO none : Nat) : Int) = 0 := rfl
   rw [e0] at hw
   obtain ⟨k1, hk1, ⟨e, h3⟩ | ⟨e, h3⟩⟩ := hw
   · refine ⟨0, k1, some (addO none topS), e, hk1, fun hu => ⟨h3 hu, rfl⟩, ⟨fun hh => (by cases hh), fun y hy => ?_, fun y hy => ?_, ?_, hL.ok⟩, fun _ => by simp⟩
     · cases hy; rw [hX]; rfl
     · cases hy; rw [hs0]; exact ⟨rfl, rfl⟩
     · rw [hs0]; exact Nat.zero_le _
   · exact ⟨10, k1, none, e, hk1, fun hu => absurd hu h3, hL, fun hh => by cases hh⟩
  | some y =>
   rw [size1_yes, if_neg (by omega)]
   exact ⟨0, k, some y, rfl, h, fun hu => ⟨hu, rfl⟩, hL, fun _ => by simp⟩
 rw [t1]
 dsimp only
 rcases Classical.em (e1 ≠ 0) with he1 | he1
 · rw [if_pos he1]
   exact ⟨e1, layF c0 X, k1, o1, rfl, t2, t3, fun he => absurd he he1, fun _ => ⟨rfl, t4⟩⟩
 · replace he1 := Classical.not_not.1 he1
   have ho1 := t5 he1
   obtain ⟨y1, rfl⟩ : ∃ y1, o1 = some y1 := by cases o1 with
    | none => exact absurd rfl ho1
    | some y1 => exact ⟨y1, rfl⟩
   obtain ⟨q1, q2, q3, q4⟩ := sec_is hx (endC_u X c0_u)
   rw [if_neg (fun hh => hh he1), if_neg (fun hh => hh q1), sumL_lay, layF_len]
   have hnow := t4.yes y1 rfl
   have hl1 : lenO (some y1) = X.length + 1 := by
    show y1.now.length = _
    rw [hnow, List.length_cons, List.length_map, layS_len]
   have hpos : (1 + (X.length : Int)) = ((lenO (some y1) : Nat) : Int) := by rw [hl1]; omega
   have hsx : closeS (kindL x.2.2) x.1 (endC c0 X).toNat x.2.1 = secX (endC c0 X) x := rfl
   rw [hpos, hsx]
   obtain ⟨k2, hk2, ⟨e, h3⟩ | ⟨e, h3⟩⟩ := writeP t2 (some y1) q2 (by omega)
   · rw [e]
     dsimp only
     rw [if_neg (by simp)]
     refine ⟨0, _, k2, _, rfl, hk2, fun hu => ⟨h3 (t3 hu).1, rfl⟩, fun _ => ⟨?_, by simp, fun hh => (by cases hh), fun y hy => ?_, fun y hy => ?_, ?_, ?_⟩, fun hh => absurd rfl hh⟩
     · rw [layF_snoc]; rfl
     · cases hy
       show (addO (some y1) _).now = _
       rw [addO_now, layS_snoc, List.map_append]
       show y1.now ++ _ = _
       rw [hnow]
       rfl
     · cases hy
       exact YF.add t4.yf t4.sl _
     · have := t4.sl
       show s ≤ (addO (some y1) _).now.length
       rw [addO_now, List.length_append]
       have h2 : (nowO (some y1)).length = lenO (some y1) := rfl
       omega
     · intro z hz
       rcases List.mem_append.1 hz with hz | hz
       · exact hL.ok z hz
       · rw [List.mem_singleton.1 hz]; exact hx
   · rw [e]
     dsimp only
     rw [if_pos (by simp)]
     exact ⟨10, layF c0 X, k2, some y1, rfl, hk2, fun hu => absurd (t3 hu).1 h3, fun he => (by cases he), fun _ => ⟨rfl, t4⟩⟩
theorem lsyncP {k : Dk} (h : K2 k) {o : Option Fl} {X : List XL} {s : Nat} (hL : LogS o X s) :
 ∃ e k' o', lsyncL ⟨k, fs1 o⟩ = (e, ⟨k', fs1 o'⟩) ∧ K2 k' ∧ (Up k → Up k' ∧ e = 0) ∧ (e = 0 → LogS o' X (lenO o') ∧ (o = none ↔ o' = none)) ∧ (e ≠ 0 → LogS o' X s) := by
 unfold lsyncL
 cases o with
 | none =>
  rw [size1_no, if_pos (by decide)]
  have hs0 : s = 0 := Nat.le_zero.1 hL.sl
  exact ⟨0, k, none, rfl, h, fun hu => ⟨hu, rfl⟩, fun _ => ⟨⟨hL.no, hL.yes, fun y hy => (by cases hy), Nat.le_refl _, hL.ok⟩, Iff.rfl⟩, fun hh => absurd rfl hh⟩
 | some y =>
  rw [size1_yes, if_neg (by omega)]
  obtain ⟨k1, hk1, ⟨e, h3⟩ | ⟨e, h3⟩⟩ := syncP h y
  · refine ⟨0, k1, some (syncF y), e, hk1, fun hu => ⟨h3 hu, rfl⟩, fun _ => ⟨⟨fun hh => (by cases hh), fun z hz => ?_, fun z hz => ?_, Nat.le_refl _, hL.ok⟩, by simp⟩, fun hh => absurd rfl hh⟩
    · cases hz; exact hL.yes y rfl
    · cases hz; exact YF.sync y
  · exact ⟨10, k1, some y, e, hk1, fun hu => absurd hu h3, fun he => (by cases he), fun _ => hL⟩
def commitAt (X : List XL) (i : Nat) : Bool := match X[i]? with | some x => x.2.2 | none => false
def supC (X : List XL) : Nat → Nat
 | 0 => 0
 | a + 1 => if commitAt X a = true then a + 1 else supC X a
theorem supC_le (X : List XL) : ∀ a, supC X a ≤ a
 | 0 => Nat.le_refl _
 | a + 1 => by unfold supC; split; exact Nat.le_refl _; exact Nat.le_succ_of_le (supC_le X a)
theorem supC_yes (X : List XL) : ∀ a, 0 < supC X a → commitAt X (supC X a - 1) = true
 | 0, h => (Nat.lt_irrefl _ h).elim
 | a + 1, h => by
  unfold supC at h ⊢
  split
  · assumption
  · rename_i hc; rw [if_neg hc] at h; exact supC_yes X a h
theorem supC_mono (X : List XL) {a b : Nat} (h : a ≤ b) : supC X a ≤ supC X b := by
 induction b with
 | zero => obtain rfl : a = 0 := Nat.le_zero.1 h; exact Nat.le_refl _
 | succ b ih =>
  rcases Nat.lt_or_ge b a with hb | hb
  · obtain rfl : a = b + 1 := by omega
    exact Nat.le_refl _
  · conv => rhs; unfold supC
    split
    · exact Nat.le_trans (supC_le X a) (by omega)
    · exact ih hb
theorem supC_uniq {X : List XL} {a n : Nat} (h1 : n ≤ a) (h2 : 0 < n → commitAt X (n - 1) = true) (h3 : ∀ i, n ≤ i → i < a → commitAt X i = false) : supC X a = n := by
 rcases Nat.lt_trichotomy (supC X a) n with h | h | h
 · have hc := h2 (by omega)
   have hm := supC_mono X h1
   have : supC X n = n := by
    obtain ⟨b, hb⟩ : ∃ b, n = b + 1 := ⟨n - 1, by omega⟩
    rw [hb] at hc ⊢
    rw [Nat.add_sub_cancel] at hc
    show (if commitAt X b = true then b + 1 else supC X b) = _
    rw [if_pos hc]
   omega
 · exact h
 · have hc := supC_yes X a (by omega)
   have hl := supC_le X a
   have := h3 (supC X a - 1) (by omega) (by omega)
   rw [this] at hc; cases hc
theorem trimR_is : ∀ (l : List Fr), ∃ n, n ≤ l.length ∧ trimR l = l.take n ∧ (0 < n → ∃ f, l[n - 1]? = some f ∧ f.2.2 = true) ∧ ∀ i f, n ≤ i → l[i]? = some f → f.2.2 = false
 | [] => ⟨0, Nat.le_refl _, rfl, fun h => absurd h (by decide), fun i f _ h => by simp at h⟩
 | g :: r => by
  obtain ⟨n, h1, h2, h3, h4⟩ := trimR_is r
  have e : trimR (g :: r) = (match trimR r, g.2.2 with | [], false => [] | t, _ => g :: t) := rfl
  rcases Nat.eq_zero_or_pos n with h0 | h0
  · subst h0
    rw [List.take_zero] at h2
    cases hg : g.2.2 with
    | false =>
     refine ⟨0, Nat.zero_le _, by rw [e, h2, hg]; rfl, fun h => absurd h (by decide), fun i f _ hi => ?_⟩
     cases i with
     | zero => cases hi; exact hg
     | succ i => exact h4 i f (Nat.zero_le _) hi
    | true =>
     refine ⟨1, by simp, by rw [e, h2, hg]; rfl, fun _ => ⟨g, rfl, hg⟩, fun i f hi hf => ?_⟩
     cases i with
     | zero => omega
     | succ i => exact h4 i f (Nat.zero_le _) hf
  · obtain ⟨f0, hf0, hf1⟩ := h3 h0
    refine ⟨n + 1, by simp; exact h1, ?_, fun _ => ⟨f0, ?_, hf1⟩, fun i f hi hf => ?_⟩
    · rw [e]
      have hne : trimR r ≠ [] := fun hh => by
       rw [h2] at hh
       have := congrArg List.length hh
       rw [List.length_take, List.length_nil] at this
       omega
      cases ht : trimR r with
      | nil => exact absurd ht hne
      | cons a t => rw [← ht, h2, List.take_succ_cons]; rw [h2] at ht; rw [ht]
    · obtain ⟨m, rfl⟩ : ∃ m, n = m + 1 := ⟨n - 1, by omega⟩
      exact hf0
    · cases i with
      | zero => omega
      | succ i => exact h4 i f (by omega) hf
theorem layF_at {c : Int} {X : List XL} {i : Nat} {f : Fr} (h : (layF c X)[i]? = some f) : f.2.2 = commitAt X i := by
 induction X generalizing c i with
 | nil => simp [layF] at h
 | cons x r ih =>
  cases i with
  | zero => cases h; rfl
  | succ i => exact ih (c := sumS (secX c x)) (i := i) h
theorem commit_take {X : List XL} {k i : Nat} (hi : i < k) : commitAt (X.take k) i = commitAt X i := by unfold commitAt; rw [List.getElem?_take, if_pos hi]
theorem trim_lay (c : Int) (X : List XL) {k : Nat} (hk : k ≤ X.length) : trimR (layF c (X.take k)) = layF c (X.take (supC X k)) := by
 obtain ⟨n, h1, h2, h3, h4⟩ := trimR_is (layF c (X.take k))
 have hlen : (layF c (X.take k)).length = k := by rw [layF_len, List.length_take]; omega
 rw [hlen] at h1
 have e : supC X k = n := supC_uniq h1 (fun h0 => by
  obtain ⟨f, hf, hc⟩ := h3 h0
  rw [layF_at hf, commit_take (by omega)] at hc
  exact hc) (fun i hi hik => by
  cases hf : (layF c (X.take k))[i]? with
  | none => rw [List.getElem?_eq_none_iff] at hf; omega
  | some f =>
   have := h4 i f hi hf
   rw [layF_at hf, commit_take hik] at this
   exact this)
 rw [h2, layF_take, List.take_take, e, Nat.min_eq_left h1]
theorem readL_up {y : Fl} : ∀ (m i : Nat) {fs : List Fr} {k : Dk}, K2 k → Up k → 0 < i → i + m = y.now.length →
 ∃ k', readL m i fs ⟨k, fs1 (some y)⟩ = ((true, 0, fs ++ rdLG (y.now.drop i) (sumL fs)), ⟨k', fs1 (some y)⟩) ∧ K2 k' ∧ Up k'
 | 0, i, fs, k, hk, hu, h0, hi => by
  refine ⟨k, ?_, hk, hu⟩
  unfold readL
  rw [size1_yes, decide_eq_true (by omega), List.drop_of_length_le (by omega)]
  show ((true, 0, fs), _) = ((true, 0, fs ++ []), _)
  rw [List.append_nil]
 | m + 1, i, fs, k, hk, hu, h0, hi => by
  have hil : i < y.now.length := by omega
  obtain ⟨k1, hk1, hu1, hr⟩ := readP hk hu y hil
  have hd : y.now.drop i = y.now[i] :: y.now.drop (i + 1) := List.drop_eq_getElem_cons hil
  rw [hd]
  unfold readL
  dsimp only
  rw [hr]
  dsimp only
  cases hc : y.now[i] with
  | none =>
   refine ⟨k1, ?_, hk1, hu1⟩
   have e13 : (readC (some (none : Cv))).2 = 13 := rfl
   rw [if_pos e13, decide_eq_true h0]
   show ((true, 0, fs), _) = ((true, 0, fs ++ []), _)
   rw [List.append_nil]
  | some d =>
   have e0 : readC (some (some d)) = (d, 0) := rfl
   rw [e0]
   dsimp only
   rw [if_neg (by decide), if_neg (by simp), if_neg (by omega)]
   cases hs : rightR (sumL fs) d with
   | none =>
    refine ⟨k1, ?_, hk1, hu1⟩
    dsimp only
    rw [size1_yes, decide_eq_true (by omega)]
    simp only [rdLG, hs, List.append_nil]
   | some f =>
    obtain ⟨k2, h2, h3, h4⟩ := readL_up (y := y) m (i + 1) (fs := fs ++ [f]) hk1 hu1 (by omega) (by omega)
    refine ⟨k2, ?_, h3, h4⟩
    dsimp only
    rw [h2]
    have hsum : sumL (fs ++ [f]) = f.2.1 := by unfold sumL; rw [List.getLast?_concat]
    rw [hsum, List.append_assoc]
    simp only [rdLG, hs]
    rfl
def topped (o : Option Fl) : Prop := (nowO o)[0]? = some (some topS)
theorem openP {k : Dk} (hk : K2 k) (hu : Up k) (o : Option Fl) :
 ∃ fs' k' o', openL ⟨k, fs1 o⟩ = ((0, fs'), ⟨k', fs1 o'⟩) ∧ K2 k' ∧ Up k' ∧
  (topped o → fs' = trimR (rdLG ((nowO o).drop 1) c0) ∧ ∃ y, o = some y ∧ (o' = some y ∧ y.now.length ≤ 1 + fs'.length ∨ o' = some (cutF y (1 + fs'.length)) ∧ 1 + fs'.length < y.now.length)) ∧
  (¬ topped o → fs' = [] ∧ o' = none) := by
 unfold openL
 cases o with
 | none =>
  rw [size1_no, if_pos (by decide)]
  exact ⟨[], k, none, rfl, hk, hu, fun h => (by cases h), fun _ => ⟨rfl, rfl⟩⟩
 | some y =>
  rw [size1_yes, if_neg (by omega), Int.toNat_natCast]
  -- not right
  have no : ∀ {k1 : Dk} {fs : List Fr}, K2 k1 → Up k1 → ¬ topped (some y) → ∃ fs' k' o', openR ((false, 0, fs), ⟨k1, fs1 (some y)⟩) = ((0, fs'), ⟨k', fs1 o'⟩) ∧ K2 k' ∧ Up k' ∧
   (topped (some y) → fs' = trimR (rdLG ((nowO (some y)).drop 1) c0) ∧ ∃ y', some y = some y' ∧ (o' = some y' ∧ y'.now.length ≤ 1 + fs'.length ∨ o' = some (cutF y' (1 + fs'.length)) ∧ 1 + fs'.length < y'.now.length)) ∧
   (¬ topped (some y) → fs' = [] ∧ o' = none) := fun {k1 fs} h1 h2 h3 => by
   unfold openR
   dsimp only
   rw [if_neg (by simp), if_pos rfl]
   obtain ⟨k2, hk2, ⟨e, h5⟩ | ⟨e, h5⟩⟩ := dropP h1 y
   · rw [e]
     exact ⟨[], k2, none, rfl, hk2, h5 h2, fun hh => absurd hh h3, fun _ => ⟨rfl, rfl⟩⟩
   · exact absurd h2 h5
  cases hn : y.now with
  | nil =>
   have e : readL y.now.length 0 [] ⟨k, fs1 (some y)⟩ = ((false, 0, []), ⟨k, fs1 (some y)⟩) := by
    rw [hn]
    show ((decide (0 < sizeD ⟨k, fs1 (some y)⟩ logN), (0 : Int), ([] : List Fr)), _) = _
    rw [size1_yes, hn]
    rfl
   rw [← hn, e]
   exact no hk hu (fun hh => by unfold topped at hh; rw [show nowO (some y) = y.now from rfl, hn] at hh; cases hh)
  | cons c t =>
   have hil : 0 < y.now.length := by rw [hn]; simp
   obtain ⟨k1, hk1, hu1, hr⟩ := readP hk hu y hil
   have hc0 : y.now[0] = c := by simp [hn]
   rw [hc0] at hr
   have hlen : (c :: t).length = t.length + 1 := rfl
   have e : readL (c :: t).length 0 [] ⟨k, fs1 (some y)⟩ = (
    if (readC (some c)).2 = 13 then ((decide (0 < 0), 0, []), ⟨k1, fs1 (some y)⟩)
    else if (readC (some c)).2 ≠ 0 then ((false, (readC (some c)).2, []), ⟨k1, fs1 (some y)⟩)
    else (if (readC (some c)).1 = topS then readL t.length 1 [] ⟨k1, fs1 (some y)⟩ else ((false, 0, []), ⟨k1, fs1 (some y)⟩))) := by
    rw [hlen]
    conv => lhs; unfold readL
    dsimp only
    rw [show ((0 : Nat) : Int) = 0 from rfl] at hr ⊢
    rw [hr]
    rfl
   cases c with
   | none =>
    have e13 : (readC (some (none : Cv))).2 = 13 := rfl
    rw [if_pos e13] at e
    rw [e]
    exact no hk1 hu1 (fun hh => by unfold topped at hh; rw [show nowO (some y) = y.now from rfl, hn] at hh; cases hh)
   | some d =>
    have e0 : readC (some (some d)) = (d, 0) := rfl
    rw [e0] at e
    dsimp only at e
    rw [if_neg (by decide), if_neg (by simp)] at e
    by_cases hd : d = topS
    · rw [if_pos hd] at e
      obtain ⟨k2, h2, h3, h4⟩ := readL_up (y := y) t.length 1 (fs := []) hk1 hu1 (by decide) (by rw [hn, List.length_cons]; omega)
      rw [h2, List.nil_append] at e
      have hs0 : sumL [] = c0 := rfl
      rw [hs0] at e
      rw [e]
      unfold openR
      dsimp only
      rw [if_neg (by simp), if_neg (by simp), size1_yes]
      have htop : topped (some y) := by unfold topped; rw [show nowO (some y) = y.now from rfl, hn, hd]; rfl
      by_cases hlt : (1 + ((trimR (rdLG (y.now.drop 1) c0)).length : Int)) < ((y.now.length : Nat) : Int)
      · rw [if_pos hlt]
        have hcast : (1 + ((trimR (rdLG (y.now.drop 1) c0)).length : Int)) = ((1 + (trimR (rdLG (y.now.drop 1) c0)).length : Nat) : Int) := by omega
        rw [hcast]
        obtain ⟨k3, hk3, ⟨e3, h5⟩ | ⟨e3, h5⟩⟩ := cutP h3 y (n := 1 + (trimR (rdLG (y.now.drop 1) c0)).length) (by omega)
        · rw [e3]
          dsimp only
          rw [if_neg (by simp)]
          exact ⟨_, k3, _, rfl, hk3, h5 h4, fun _ => ⟨rfl, y, rfl, .inr ⟨rfl, by omega⟩⟩, fun hh => absurd htop hh⟩
        · exact absurd h4 h5
      · rw [if_neg hlt]
        exact ⟨_, k2, _, rfl, h3, h4, fun _ => ⟨rfl, y, rfl, .inl ⟨rfl, by omega⟩⟩, fun hh => absurd htop hh⟩
    · rw [if_neg hd] at e
      rw [e]
      exact no hk1 hu1 (fun hh => by unfold topped at hh; rw [show nowO (some y) = y.now from rfl, hn] at hh; exact hd (Option.some.inj (Option.some.inj hh)))
def wantS (X : List XL) (n : Int) : ByteArray := X.foldl (fun w x => if x.1 = n then x.2.1 else w) ⟨#[]⟩
theorem want_snoc (X : List XL) (x : XL) (n : Int) : wantS (X ++ [x]) n = if x.1 = n then x.2.1 else wantS X n := by unfold wantS; rw [List.foldl_append]; rfl
theorem snoc_ind {α : Type} {P : List α → Prop} (h0 : P []) (h1 : ∀ l a, P l → P (l ++ [a])) (l : List α) : P l := by
 rw [← List.reverse_reverse l]
 induction l.reverse with
 | nil => exact h0
 | cons a t ih => rw [List.reverse_cons]; exact h1 _ _ ih
theorem hold_look (c n : Int) (X : List XL) : (lookI (lastM (layF c X)) n = none ∧ wantS X n = ⟨#[]⟩) ∨ ∃ (i : Nat) (x : XL), lookI (lastM (layF c X)) n = some ((i : Nat) : Int) ∧ X[i]? = some x ∧ wantS X n = x.2.1 := by
 refine snoc_ind (P := fun X => (lookI (lastM (layF c X)) n = none ∧ wantS X n = ⟨#[]⟩) ∨ ∃ (i : Nat) (x : XL), lookI (lastM (layF c X)) n = some ((i : Nat) : Int) ∧ X[i]? = some x ∧ wantS X n = x.2.1) (.inl ⟨rfl, rfl⟩) (fun X x ih => ?_) X
 rw [layF_snoc, lastM_snoc, look_put, want_snoc, layF_len]
 have hf : (frX (endC c X) x).1 = x.1 := rfl
 rw [hf]
 by_cases h : x.1 = n
 · rw [if_pos h.symm, if_pos h]
   exact .inr ⟨X.length, x, rfl, by simp, rfl⟩
 · rw [if_neg (fun e => h e.symm), if_neg h]
   rcases ih with h1 | ⟨i, z, h1, h2, h3⟩
   · exact .inl h1
   · have hi : i < X.length := (List.getElem?_eq_some_iff.1 h2).1
     exact .inr ⟨i, z, h1, by rw [List.getElem?_append_left hi]; exact h2, h3⟩
theorem layS_at : ∀ {X : List XL} {c : Int} {i : Nat} {x : XL}, U64 c → X[i]? = some x → ∃ c', U64 c' ∧ (layS c X)[i]? = some (secX c' x)
 | [], _, _, _, _, h => by simp at h
 | y :: r, c, 0, x, hc, h => by cases h; exact ⟨c, hc, rfl⟩
 | y :: r, c, i + 1, x, _, h => layS_at (X := r) (c := sumS (secX c y)) (i := i) (sumS_u _) h
theorem getP {k : Dk} (hk : K2 k) (hu : Up k) {o : Option Fl} {X : List XL} {s : Nat} (hL : LogS o X s) (n : Int) :
 ∃ k' is, getL (layF c0 X) ⟨k, fs1 o⟩ n = ((wantS X n, is, 0), ⟨k', fs1 o⟩) ∧ K2 k' ∧ Up k' ∧ (is = true ↔ wantS X n ≠ ⟨#[]⟩) := by
 unfold getL
 rcases hold_look c0 n X with ⟨h1, h2⟩ | ⟨i, x, h1, h2, h3⟩
 · rw [h1, h2]
   exact ⟨k, false, rfl, hk, hu, by simp⟩
 · rw [h1]
   dsimp only
   have hi : i < X.length := (List.getElem?_eq_some_iff.1 h2).1
   have hxo : XOk x := hL.ok x (List.mem_of_getElem? h2)
   obtain ⟨y, rfl⟩ : ∃ y, o = some y := by
    cases o with
    | none => have := hL.no rfl; rw [this] at hi; simp at hi
    | some y => exact ⟨y, rfl⟩
   have hnow := hL.yes y rfl
   obtain ⟨c', hc', hs⟩ := layS_at c0_u h2
   have hlen : y.now.length = X.length + 1 := by rw [hnow, List.length_cons, List.length_map, layS_len]
   obtain ⟨k1, hk1, hu1, hr⟩ := readP hk hu y (i := 1 + i) (by omega)
   have hcast : (1 + ((i : Nat) : Int)) = ((1 + i : Nat) : Int) := by omega
   have hat : y.now[1 + i]? = some (some (secX c' x)) := by
    rw [hnow, show 1 + i = i + 1 by omega, List.getElem?_cons_succ, List.getElem?_map, hs]
    rfl
   have hat' : y.now[1 + i] = some (secX c' x) := by
    rw [List.getElem?_eq_getElem (by omega)] at hat
    exact Option.some.inj hat
   rw [hat'] at hr
   rw [hcast, hr]
   have e0 : readC (some (some (secX c' x))) = (secX c' x, 0) := rfl
   rw [e0]
   dsimp only
   rw [if_neg (by simp), (sec_is hxo hc').2.2.2, h3]
   refine ⟨k1, true, rfl, hk1, hu1, iff_of_true rfl fun e => ?_⟩
   have := hxo.d
   rw [e] at this
   cases this
structure KeepR (X : List XL) (laid sure : Nat) (fs : List Fr) (D : DM) : Prop where
 ex : ∃ k o s s0, D = ⟨k, fs1 o⟩ ∧ K2 k ∧ LogS o (X.take laid) s ∧ s0 ≤ laid ∧ (s0 = 0 ∨ s0 + 1 ≤ s) ∧ sure = supC X s0
 fs : fs = layF c0 (X.take laid)
 le : laid ≤ X.length
theorem LogS.nil : LogS none [] 0 := ⟨fun _ => rfl, fun y hy => (by cases hy), fun y hy => (by cases hy), Nat.le_refl _, fun x hx => (by cases hx)⟩
theorem keep_start (X : List XL) {D : DM} {r : Int} (h : D = newD r) (hr : 100 ≤ r) (a : Int) : openL D = ((0, []), D) ∧ KeepR X 0 0 [] (armD D a 2 0) := by
 subst h
 refine ⟨rfl, ⟨(armD (newD r) a 2 0).k, none, 0, 0, rfl, ⟨.inl rfl, ?_⟩, by rw [List.take_zero]; exact LogS.nil, Nat.le_refl _, .inl rfl, rfl⟩, by rw [List.take_zero]; rfl, Nat.zero_le _⟩
 show 100 ≤ clampR r
 unfold clampR
 omega
structure UpR (X : List XL) (fs : List Fr) (D : DM) : Prop where
 ex : ∃ k o s, D = ⟨k, fs1 o⟩ ∧ Up k ∧ K2 k ∧ LogS o X s
 fs : fs = layF c0 X
theorem up_start {D : DM} {r : Int} (h : D = newD r) (hr : 100 ≤ r) : openL D = ((0, []), D) ∧ UpR [] [] D := by
 subst h
 refine ⟨rfl, ⟨(newD r).k, none, 0, rfl, ⟨rfl, rfl⟩, ⟨.inr rfl, ?_⟩, LogS.nil⟩, rfl⟩
 show 100 ≤ clampR r
 unfold clampR
 omega
theorem up_add {X : List XL} {fs : List Fr} {D : DM} (h : UpR X fs D) {x : XL} (hxo : XOk x) (hl : X.length < 98) {e : Int} {fs' : List Fr} {D' : DM} (ha : (e, fs', D') = addL fs D x.1 x.2.1 x.2.2) : e = 0 ∧ UpR (X ++ [x]) fs' D' := by
 obtain ⟨⟨k, o, s, rfl, hu, hk, hL⟩, rfl⟩ := h
 obtain ⟨e', fs'', k', o', q1, q2, q3, q4, q5⟩ := addP hk hL hxo hl
 rw [q1] at ha
 simp only [Prod.mk.injEq] at ha
 obtain ⟨rfl, rfl, rfl⟩ := ha
 obtain ⟨u1, u2⟩ := q3 hu
 obtain ⟨r1, _, r2⟩ := q4 u2
 exact ⟨u2, ⟨k', o', s, rfl, u1, q2, r2⟩, r1⟩
theorem up_get {X : List XL} {fs : List Fr} {D : DM} (h : UpR X fs D) (n : Int) {z : ByteArray} {is : Bool} {e : Int} {D' : DM} (hg : ((z, is, e), D') = getL fs D n) : z = wantS X n ∧ (is = true ↔ wantS X n ≠ ⟨#[]⟩) ∧ e = 0 ∧ UpR X fs D' := by
 obtain ⟨⟨k, o, s, rfl, hu, hk, hL⟩, rfl⟩ := h
 obtain ⟨k', is', q1, q2, q3, q4⟩ := getP hk hu hL n
 rw [q1] at hg
 simp only [Prod.mk.injEq] at hg
 obtain ⟨⟨rfl, rfl, rfl⟩, rfl⟩ := hg
 exact ⟨rfl, q4, rfl, ⟨k', o, s, rfl, q3, q2, hL⟩, rfl⟩
theorem up_len {X : List XL} {fs : List Fr} {D : DM} (h : UpR X fs D) : fs.length = X.length := by rw [h.fs, layF_len]
theorem YF.cut {y : Fl} {s : Nat} (h : YF y s) (hs : s ≤ y.now.length) (n : Nat) : YF (cutF y n) (min s n) := by
 refine ⟨?_, ?_⟩
 · show y.safe.take n = ((y.now.take n).take (min s n)).map some ++ List.replicate ((y.now.take n).length - min s n) none
   rw [h.safe, List.take_append, List.length_map, List.length_take, ← List.map_take, List.take_take, List.take_take, List.take_replicate, List.length_take]
   congr 1
   · congr 2; omega
   · congr 1; omega
 · show y.wait.take n = List.replicate (min s n) false ++ List.replicate ((y.now.take n).length - min s n) true
   rw [h.wait, List.take_append, List.length_replicate, List.take_replicate, List.take_replicate, List.length_take]
   congr 2 <;> omega
def SafeL (X : List XL) (D : DM) : Prop := ∃ k o, D = ⟨k, fs1 o⟩ ∧ Up k ∧ K2 k ∧ (o = none ∧ X = [] ∨ o = some (setF (some topS :: (layS c0 X).map some))) ∧ ∀ x ∈ X, XOk x
theorem up_sync {X : List XL} {fs : List Fr} {D : DM} (h : UpR X fs D) {e : Int} {D' : DM} (hs : (e, D') = lsyncL D) : e = 0 ∧ UpR X fs D' ∧ SafeL X D' := by
 obtain ⟨⟨k, o, s, rfl, hu, hk, hL⟩, rfl⟩ := h
 have hs2 := hs
 obtain ⟨e', k', o', q1, q2, q3, q4, q5⟩ := lsyncP hk hL
 rw [q1] at hs
 simp only [Prod.mk.injEq] at hs
 obtain ⟨rfl, rfl⟩ := hs
 obtain ⟨u1, u2⟩ := q3 hu
 obtain ⟨r1, r2⟩ := q4 u2
 refine ⟨u2, ⟨⟨k', o', _, rfl, u1, q2, r1⟩, rfl⟩, k', o', rfl, u1, q2, ?_, hL.ok⟩
 unfold lsyncL at hs2
 cases o with
 | none => exact .inl ⟨r2.1 rfl, hL.no rfl⟩
 | some y =>
  right
  rw [size1_yes, if_neg (by omega)] at hs2
  obtain ⟨k1, hk1, ⟨e1, h3⟩ | ⟨e1, h3⟩⟩ := syncP hk y
  · rw [e1] at hs2
    simp only [Prod.mk.injEq, DM.mk.injEq] at hs2
    obtain ⟨_, _, hf⟩ := hs2
    have ho : o' = some (syncF y) := by
     have := congrArg (fun fs => findF fs logN) hf
     rw [find1, find1] at this
     exact this
    rw [ho]
    show some (setF y.now) = _
    rw [hL.yes y rfl]
  · exact absurd hu h3
theorem fz_self : ∀ (now : List Cv), Fz now.length now now
 | [] => trivial
 | c :: t => ⟨rfl, fz_self t⟩
end Go.Proofs.YtcojbjakopkfbaaGreat
namespace Go.Proofs.YtcojbjakopkfbaaGreat
open Go.RowKit
set_option linter.unusedSimpArgs false
set_option linter.unusedVariables false
theorem sub_flat {T : Type} {f : T → List Value} {l : List T} {n i o : Nat} {y : T} (hn : ∀ y, (f y).length = n) (hy : l[i]? = some y) (ho : o = i * n) : subL (l.flatMap f) o n = some (f y) := by
 obtain ⟨hi, he⟩ := List.getElem?_eq_some_iff.1 hy
 have hlen := flat_length hn l
 have hin : i * n + n ≤ l.length * n := by
  have : (i + 1) * n ≤ l.length * n := Nat.mul_le_mul_right n hi
  rw [Nat.add_mul, Nat.one_mul] at this; exact this
 refine subL_in (List.ext_getElem? fun j => ?_) (hn y) (fun _ => by rw [hlen, ho]; omega)
 rw [List.getElem?_take, List.getElem?_drop, ho]
 by_cases hj : j < n
 · rw [if_pos hj, flat_getElem hn l i j y hy hj]
 · rw [if_neg hj, List.getElem?_eq_none (by rw [hn y]; omega)]
theorem flat_bind {α : Type} {f : α → List Value} (h : ∀ a, (f a).all flat1 = true) (l : List α) : ∀ v ∈ l.flatMap f, flat1 v = true := by
 intro v hv
 obtain ⟨a, _, ha⟩ := List.mem_flatMap.1 hv
 exact List.all_eq_true.1 (h a) v ha
theorem app_flat {α : Type} {B : List α} {x : α} {f : α → List Value} {l : List Value} (h : l = f x) : B.flatMap f ++ l = (B ++ [x]).flatMap f := by rw [h, List.flatMap_append, List.flatMap_singleton]
theorem strEq_self (s : ByteArray) : strEq s s = true := strEq_true.2 rfl
theorem strEq_ne {a b : ByteArray} (h : strEq a b = false) : a ≠ b := fun e => by rw [e, strEq_self] at h; cases h
theorem strEq_is {a b : ByteArray} (h : strEq a b = true) : a = b := bytesOf_inj.1 (strEq_true.1 h)
theorem sizeD_bound {D : DM} (h : D.Ok) (s : ByteArray) : -1 ≤ sizeD D s ∧ sizeD D s ≤ 16384 := by
 unfold sizeD
 cases hx : findF D.fs s with
 | none => dsimp only; omega
 | some x => have := (find_ok h.fs hx).len; dsimp only; omega
abbrev frv (f : Fr) : List Value := [iv f.1, .int .u64 f.2.1, .bool f.2.2]
abbrev kI (q : Int × Int) : Value := iv q.1
abbrev vI (q : Int × Int) : Value := iv q.2
abbrev mpI (fs : List Fr) : Itm := .mp ((lastM fs).map kI) ((lastM fs).map vI)
abbrev lgX (M : List (Int × Int)) (fs : List Fr) (cap : Nat) (S : Nat → Prop) (D : DM) : HP := [(0, .own 99 [ptr 1, mslice 2 fs.length cap, .map (some 3)]), (1, diskI S D), (2, .lst 105 3 cap (fs.flatMap frv)), (3, .mp (M.map kI) (M.map vI))]
abbrev lgH (fs : List Fr) (cap : Nat) (S : Nat → Prop) (D : DM) : HP := lgX (lastM fs) fs cap S D
abbrev lgM (n : Nat) (fs : List Fr) (cap : Nat) (S : Nat → Prop) (D : DM) : HP := [(0, .own 99 [ptr 1, mslice 30 n cap, .map (some 31)]), (1, diskI S D), (30, .lst 105 3 cap (fs.flatMap frv)), (31, mpI fs)]
theorem dec_pos {i : Nat} : decide (((i : Nat) : Int) > 0) = decide (0 < i) := decide_eq_decide.2 (by omega)
theorem frs_len (l : List Fr) : (l.flatMap frv).length = l.length * 3 := flat_length (f := frv) (n := 3) (fun _ => rfl) l
theorem cell_fr {fs : List Fr} {i j : Nat} {f : Fr} {v : Value} (hf : fs[i]? = some f) (hj : j < 3) (hv : (frv f)[j]? = some v) : (fs.flatMap frv)[i * 3 + j]? = some v := by
 rw [flat_getElem (f := frv) (n := 3) (fun _ => rfl) fs i j f hf hj]; exact hv
theorem sum_last {fs : List Fr} {f : Fr} (h : fs[fs.length - 1]? = some f) : sumL fs = f.2.1 := by
 unfold sumL
 rw [List.getLast?_eq_getElem?, h]
theorem sum_nil {fs : List Fr} (h : fs.length = 0) : sumL fs = sumS topS := by
 rw [List.eq_nil_of_length_eq_zero h]; rfl
theorem take_frs (fs : List Fr) (n : Nat) : (fs.flatMap frv).take (n * 3) = (fs.take n).flatMap frv := by
 induction fs generalizing n with
 | nil => simp
 | cons f r ih =>
  cases n with
  | zero => simp
  | succ n => rw [List.flatMap_cons, List.take_succ_cons, List.flatMap_cons, show (n + 1) * 3 = (frv f).length + n * 3 by show _ = 3 + _; omega, List.take_length_add_append, ih]
theorem lookI_first : ∀ {M : List (Int × Int)} {n : Int} {j : Nat} {v : Value}, FirstAt (M.map kI) (iv n) j → (M.map vI)[j]? = some v → ∃ i, v = iv i ∧ lookI M n = some i
 | [], n, j, v, h, hv => by simp at hv
 | q :: r, n, 0, v, h, hv => by
  have h1 := h.1
  simp only [List.map_cons, List.getElem?_cons_zero, Option.some.injEq, Value.int.injEq, true_and] at h1
  simp only [List.map_cons, List.getElem?_cons_zero, Option.some.injEq] at hv
  refine ⟨q.2, hv.symm, ?_⟩
  unfold lookI
  rw [List.find?_cons, show (q.1 == n) = true from by simpa using h1]
  rfl
 | q :: r, n, j + 1, v, h, hv => by
  have h1 : ¬ q.1 = n := fun e => h.2 0 (iv q.1) (by omega) rfl (by rw [e])
  obtain ⟨i, h2, h3⟩ := lookI_first (M := r) (n := n) (j := j) (v := v) ⟨h.1, fun a u ha hu => h.2 (a + 1) u (by omega) hu⟩ hv
  refine ⟨i, h2, ?_⟩
  unfold lookI at h3 ⊢
  rw [List.find?_cons, show (q.1 == n) = false from by simpa using h1]
  exact h3
theorem look_last {M : List (Int × Int)} {n : Int} {Kf : Value → Prop} {Kn : Prop} (h1 : ∀ i, lookI M n = some i → Kf (iv i)) (h2 : lookI M n = none → Kn) : LookOb (M.map kI) (M.map vI) (iv n) Kf Kn where
 kinds u hu := by obtain ⟨q, _, rfl⟩ := List.mem_map.1 hu; rfl
 len := by rw [List.length_map, List.length_map]
 found j v hj hv := by obtain ⟨i, rfl, h⟩ := lookI_first hj hv; exact h1 i h
 none h := h2 (by
  unfold lookI
  rw [List.find?_eq_none.2 (fun q hq => by
   have := h (iv q.1) (List.mem_map.2 ⟨q, hq, rfl⟩)
   simp only [beq_iff_eq]
   intro e
   exact this (by rw [e]))]
  rfl)
theorem putI_old {n v : Int} : ∀ {M : List (Int × Int)} {j : Nat}, FirstAt (M.map kI) (iv n) j → (putI M n v).map kI = M.map kI ∧ (putI M n v).map vI = (M.map vI).set j (iv v)
 | [], j, h => by have := h.1; simp at this
 | q :: r, 0, h => by
  have h1 := h.1
  simp only [List.map_cons, List.getElem?_cons_zero, Option.some.injEq, Value.int.injEq, true_and] at h1
  unfold putI
  rw [if_pos h1]
  refine ⟨?_, rfl⟩
  simp only [List.map_cons, kI, h1]
 | q :: r, j + 1, h => by
  have h1 : ¬ q.1 = n := fun e => h.2 0 (iv q.1) (by omega) rfl (by rw [e])
  obtain ⟨h2, h3⟩ := putI_old (M := r) (j := j) (v := v) ⟨h.1, fun a u ha hu => h.2 (a + 1) u (by omega) hu⟩
  unfold putI
  rw [if_neg h1]
  exact ⟨by rw [List.map_cons, List.map_cons, h2], by rw [List.map_cons, List.map_cons, h3]; rfl⟩
theorem putI_new {n v : Int} : ∀ {M : List (Int × Int)}, (∀ u ∈ M.map kI, u ≠ iv n) → putI M n v = M ++ [(n, v)]
 | [], _ => rfl
 | q :: r, h => by
  unfold putI
  rw [if_neg (fun e => h (iv q.1) (by simp) (by rw [e])), putI_new (M := r) fun u hu => h u (by simp only [List.map_cons, List.mem_cons]; exact .inr hu)]
  rfl
theorem put_last {M : List (Int × Int)} {n v : Int} : PutOb (M.map kI) (M.map vI) (iv n) (iv v) ((putI M n v).map kI) ((putI M n v).map vI) where
 kinds u hu := by obtain ⟨q, _, rfl⟩ := List.mem_map.1 hu; rfl
 len := by rw [List.length_map, List.length_map]
 old j hj := putI_old hj
 new h := by rw [putI_new h]; simp
theorem lastM_take {fs : List Fr} {i : Nat} {f : Fr} (h : fs[i]? = some f) : lastM (fs.take (i + 1)) = putI (lastM (fs.take i)) f.1 ((i : Nat) : Int) := by
 have hi : i < fs.length := (List.getElem?_eq_some_iff.1 h).1
 have e : fs.take (i + 1) = fs.take i ++ [f] := by rw [List.take_add_one, h]; rfl
 rw [e, lastM_snoc, List.length_take, Nat.min_eq_left (by omega)]
theorem read_size (D : DM) (s : ByteArray) (i : Int) (t : ByteArray) : sizeD (readD D s i).2 t = sizeD D t := rfl
theorem lastM_nil : lastM [] = [] := rfl
theorem lastM_len : ∀ (fs : List Fr), (lastM fs).length ≤ fs.length := fun fs => by
 refine snoc_ind (P := fun fs => (lastM fs).length ≤ fs.length) (Nat.le_refl _) (fun l f ih => ?_) fs
 rw [lastM_snoc, List.length_append]
 exact Nat.le_trans (putI_len _ _ _) (Nat.succ_le_succ ih)
attribute [local irreducible] numOf fixedL bytesOf strOf strEq strLt sfrom closeS closeE writeD sizeD syncD cutD dropD readD topS sumS sumL rightR lastM
theorem rnLogMore1 {p : Prop} (h : p := by refine ⟨?_, ?_, ?_⟩; (first | apply rR_tuple | apply rR_one rfl | exact rfl); all_goals (repeat' (first | (with_reducible (first | exact relH_nil | apply rn_lst | apply rn_own | apply rn_mp | apply rn_row | apply rn_abs | exact wo_nil)) | apply wo_keep rfl | apply wo_drop rfl | exact relH_nil | exact r1_flat rfl | exact r0_flat rfl | exact rl_nil | exact wo_nil | exact bk_old rfl | exact bk_new rfl | exact bk_nil rfl | apply rl_cons | (first | exact relL_flat (flat_bind (f := frv) (fun _ => rfl) _) | exact relL_flat (flat_map (fun _ => rfl) _) | first | exact relL_still hvs | exact relL_still (still_map (fun _ => rfl) _) | exact relL_still (still_map ro_still _) | exact relL_flat (flat_map (fun _ => rfl) _) | apply relL_set) | exact relL_flat (flat_map (fun _ => rfl) _) | exact relL_flat flat_nil | apply relL_to | apply rn_lst | apply rn_own | apply rn_mp | apply rn_row | apply relH_view rfl | apply relH_lview rfl | apply relH_fact rfl | exact r1_rig | exact r0_rig | exact r1_rigs | exact r0_rigs | apply wo_keep rfl | apply wo_drop rfl | apply r1_agg | apply rn_ptr | apply rn_slice | apply rn_slice0 | apply rn_iface | apply rn_map | apply rn_ifacem | apply r0_map | apply r0_ifacem | apply r0_ptr | apply r0_slice | apply r0_slice0 | apply r0_iface)); (first | done | fail)) : p := h
theorem ltop_c (w : World) : Calls Tryz.prog 72 #[] w fun e w' => e = .returned (.string topS) ∧ Below w.heap.size w w' := by
 have hR := fun w => c_noughts 232 (by omega) (by omega) w
 have hcl := fun w => close_any 4 1 0 (strOf (List.replicate (Int.toNat 232) 0)) w ⟨by decide, by decide⟩
 obtain ⟨es, hes⟩ : ∃ es, es = closeE 4 1 (strOf (List.replicate (Int.toNat 232) 0)) := ⟨_, rfl⟩
 have hts : closeS 4 1 (Int.toNat 0) (strOf (List.replicate (Int.toNat 232) 0)) = topS := by unfold topS; rfl
 rw [hts, ← hes] at hcl
 generalize strOf (List.replicate (Int.toNat 232) 0) = c at *
 refine calls_pure tabOk mixed Tryz.func72 rfl [] [] rfl (Nat.le_of_ble_eq_true rfl) rfl ?_ w
 (repeat' ((try (conv => whnf)); first | (guard_target =~ ∃ (_ : Value), ∃ (_ : HP), ∃ (_ : HP), _; refine ⟨_, _, _, rnLogMore1, ?_⟩; (try (dsimp only [Nat.reduceAdd, bC, bL]))) | (guard_target =~ CallOb _ 73 _ _ _ _; (with_reducible refine call_pure Tryz.call73 (hcl) ?_ ?_ ?_); exact rfl; exact rfl) | (guard_target =~ CallOb _ 53 _ _ _ _; (with_reducible refine call_pure Tryz.call53 (hR) ?_ ?_ ?_); exact rfl; exact rfl) | (with_reducible first | refine chk_in (Nat.ble_eq_true_of_le omT) ?_ | (refine ifB_in ?_ ?_ <;> intro hb <;> (try simp only [bN1, bN2, bN3, bN4, bN5, bN6, bN7, bN8, bN9, bN0] at hb) <;> (try (exfalso; omega))) | refine ⟨_, w64b _, ?_⟩ | refine ⟨_, w64 omT omT, ?_⟩ | refine ⟨_, wu64 omT omT, ?_⟩ | refine ⟨_, wu8 omT omT, ?_⟩ | refine ⟨_, w64 szT szT, ?_⟩ | refine ⟨_, rfl, ?_⟩ | refine ⟨rfl, ?_⟩) | intro cap | (with_reducible refine ⟨trivial, ?_⟩) | (guard_target =~ (planChk _ _ = true) ∧ _; refine ⟨by kernel_rfl, ?_⟩) | (guard_target =~ (_ ∧ _) ∧ _; refine ⟨by ((repeat (first | exact trivial | refine ⟨rfl, ?_⟩)); (first | done | fail)), ?_⟩) | refine ⟨by omega, ?_⟩ | refine ⟨szT, ?_⟩ | refine ⟨0, rfl, ?_⟩ | refine ⟨1, rfl, ?_⟩ | refine ⟨2, rfl, ?_⟩ | refine ⟨3, rfl, ?_⟩ | refine ⟨4, rfl, ?_⟩ | refine ⟨5, rfl, ?_⟩ | (refine cell_at1 (by assumption) ?_) | (refine cell_in1 omT (fun x hx => ?_)) | fail)) <;> (try (conv => whnf))
 all_goals first
  | rfl
  | trace_state
theorem cvLogMore2 {p : Prop} (h : p := by have nw := True.intro; (repeat' (first | exact True.intro | (with_reducible exact rfl) | (with_reducible exact AbsLe.refl) | (guard_target =~ @Eq Nat _ _; first | exact rfl | omega) | (guard_target =~ List.map _ _ = []; exact rfl) | (first | (guard_target =~ @Eq (List Value) _ _; exact rfl) | exact covL_of rfl (flat_bind (f := frv) (fun _ => rfl) _) | exact covL_of rfl (flat_map (fun _ => rfl) _) | first | exact covL_still rfl hvs | exact covL_still rfl (still_map (fun _ => rfl) _) | exact covL_still rfl (still_map ro_still _) | (apply covL_set <;> (try clear nw) <;> have nw := True.intro) | exact congrArg (Value.int _) (by (try dsimp only); omega)) | (exact congrArg (Value.int _) (by omega)) | (exact covL_flat (flat_map (fun _ => rfl) _)) | (exact covL_flat flat_nil) | (refine covP_all ?_; (try clear nw); have nw := True.intro) | (refine covL_each ?_; (try clear nw); have nw := True.intro) | (refine ⟨?_, ?_⟩ <;> (try clear nw) <;> have nw := True.intro) | (guard_hyp nw : True; ((conv => whnf) <;> clear nw)))); (first | done | fail)) : p := h
theorem lsum_c (M : List (Int × Int)) (fs : List Fr) (cap : Nat) (S : Nat → Prop) (D : DM) (hc : fs.length ≤ cap) (hl : fs.length ≤ 100000) :
 CallOb Tryz.prog 74 [ptr 0] (lgX M fs cap S D) 4 (fun v h m => ∃ z : Int, z = sumL fs ∧ v = .int .u64 z ∧ h = lgX M fs cap S D ∧ m = 4) := by
 refine call_spec tabOk mixed Tryz.call74 Tryz.func74 rfl [(3, [(0, true), (1, true), (2, true), (3, true), (4, true), (5, true), (6, true), (7, true), (8, true), (9, true), (10, true), (11, true), (12, true), (13, true)])] (fun z : Int => z = sumL fs) (fun z => .int .u64 z) (fun _ => lgX M fs cap S D) (fun _ => 4) ?_ ?_
 · exact (Nat.le_of_ble_eq_true rfl)
 have hsm := fun w => sealSum_any topS w
 have hse : ((sumAt (bytesOf topS) : Nat) : Int) = sumS topS := by unfold sumS; rfl
 rw [hse] at hsm
 have hsn := fun h => sum_nil (fs := fs) h
 generalize sumS topS = z0 at *
 (repeat' ((try (conv => whnf)); first | (guard_target =~ ∃ (_ : Value), ∃ (_ : HP), ∃ (_ : HP), _; refine ⟨_, _, _, rnLogMore1, ?_⟩; (try (dsimp only [Nat.reduceAdd, bC, bL]))) | (guard_target =~ CallOb _ 72 _ _ _ _; (with_reducible refine call_pure Tryz.call72 (ltop_c) ?_ ?_ ?_); exact rfl; exact rfl) | (guard_target =~ CallOb _ 75 _ _ _ _; (with_reducible refine call_pure Tryz.call75 (hsm) ?_ ?_ ?_); exact rfl; exact rfl) | (guard_target =~ ∃ (_ : Nat), _ ∧ _; refine ⟨fs.length - 1, by omega, by omega, ?_⟩) | (obtain ⟨f, hf⟩ : ∃ f, fs[fs.length - 1]? = some f := ⟨_, List.getElem?_eq_getElem omT⟩; refine onS_in (v := .int .u64 f.2.1) (by show (fs.flatMap frv)[0 + (fs.length - 1) * 3 + 1]? = _; rw [Nat.zero_add]; exact cell_fr hf (by decide) rfl) ?_) | (with_reducible first | refine chk_in (Nat.ble_eq_true_of_le omT) ?_ | (refine ifB_in ?_ ?_ <;> intro hb <;> (try simp only [bN1, bN2, bN3, bN4, bN5, bN6, bN7, bN8, bN9, bN0] at hb) <;> (try (exfalso; omega))) | refine ⟨_, w64b _, ?_⟩ | refine ⟨_, w64 omT omT, ?_⟩ | refine ⟨_, wu64 omT omT, ?_⟩ | refine ⟨_, wu8 omT omT, ?_⟩ | refine ⟨_, w64 szT szT, ?_⟩ | refine ⟨_, rfl, ?_⟩ | refine ⟨rfl, ?_⟩) | intro cap | (with_reducible refine ⟨trivial, ?_⟩) | (guard_target =~ (planChk _ _ = true) ∧ _; refine ⟨by kernel_rfl, ?_⟩) | (guard_target =~ (_ ∧ _) ∧ _; refine ⟨by ((repeat (first | exact trivial | refine ⟨rfl, ?_⟩)); (first | done | fail)), ?_⟩) | refine ⟨by omega, ?_⟩ | refine ⟨szT, ?_⟩ | refine ⟨0, rfl, ?_⟩ | refine ⟨1, rfl, ?_⟩ | refine ⟨2, rfl, ?_⟩ | refine ⟨3, rfl, ?_⟩ | refine ⟨4, rfl, ?_⟩ | refine ⟨5, rfl, ?_⟩ | (refine cell_at1 (by assumption) ?_) | (refine cell_in1 omT (fun x hx => ?_)) | fail)) <;> (try (conv => whnf))
 all_goals first
  | ((refine Ends.go (f.2.1) ?_ [(0, some 0), (1, some 1), (2, some 2), (3, some 3)] (Fit.q cvLogMore2 (by rfl) (by rfl))); exact (sum_last hf).symm)
  | ((refine Ends.go (z0) ?_ [(0, some 0), (1, some 1), (2, some 2), (3, some 3)] (Fit.q cvLogMore2 (by rfl) (by rfl))); exact (hsn (by omega)).symm)
  | trace_state
structure LK where
 i : Nat
 M : List (Int × Int)
theorem lastM_0 (fs : List Fr) : ([] : List (Int × Int)) = lastM (fs.take 0) := by rw [List.take_zero]; unfold lastM; rfl
theorem cvLogMore3 {p : Prop} (h : p := by have nw := True.intro; (repeat' (first | exact True.intro | (with_reducible exact rfl) | (with_reducible exact AbsLe.refl) | (guard_target =~ @Eq Nat _ _; first | exact rfl | omega) | (guard_target =~ List.map _ _ = []; exact rfl) | (first | (guard_target =~ @Eq (List Value) _ _; exact rfl) | exact covP_take (n * 3) (covL_of (take_frs fs n) (flat_bind (f := frv) (fun _ => rfl) _)) | exact covL_of rfl (flat_bind (f := frv) (fun _ => rfl) _) | exact covL_of rfl (flat_map (fun _ => rfl) _) | first | exact covL_still rfl hvs | exact covL_still rfl (still_map (fun _ => rfl) _) | exact covL_still rfl (still_map ro_still _) | (apply covL_set <;> (try clear nw) <;> have nw := True.intro) | exact congrArg (Value.int _) (by (try dsimp only); omega)) | (exact congrArg (Value.int _) (by omega)) | (exact covL_flat (flat_map (fun _ => rfl) _)) | (exact covL_flat flat_nil) | (refine covP_all ?_; (try clear nw); have nw := True.intro) | (refine covL_each ?_; (try clear nw); have nw := True.intro) | (refine ⟨?_, ?_⟩ <;> (try clear nw) <;> have nw := True.intro) | (guard_hyp nw : True; ((conv => whnf) <;> clear nw)))); (first | done | fail)) : p := h
set_option maxRecDepth 100000 in
theorem lkeep_c (M : List (Int × Int)) (fs : List Fr) (cap : Nat) (S : Nat → Prop) (D : DM) (hc : fs.length ≤ cap) (hl : fs.length ≤ 100000) (n : Nat) (hn : n ≤ fs.length) :
 CallOb Tryz.prog 58 [ptr 0, iv (n : Nat)] (lgX M fs cap S D) 4 (fun v h m => ∃ z : Nat, z = cap ∧ v = .tuple ([] : List Value).toArray ∧ h = lgM n (fs.take n) z S D ∧ m = 60) := by
 refine call_spec tabOk mixed Tryz.call58 Tryz.func58 rfl [(5, [(0, true), (1, true), (2, true), (3, true), (4, true), (5, true), (6, true), (1007, false)])] (fun z : Nat => z = cap) (fun _ => .tuple ([] : List Value).toArray) (fun z => lgM n (fs.take n) z S D) (fun _ => 60) ?_ ?_
 · exact (Nat.le_of_ble_eq_true rfl)
 (repeat' ((try (conv => whnf)); first | (guard_target =~ ∃ (_ : Value), ∃ (_ : HP), ∃ (_ : HP), _; refine ⟨_, _, _, rnLogMore1, ?_⟩; (try (dsimp only [Nat.reduceAdd, bC, bL]))) | (guard_target =~ LoopOb _ _ _ _ _ _ _ _; refine loop_rule tabOk mixed [(5, [(0, true), (1, true), (2, true), (3, true), (4, true), (5, true), (6, true), (1007, false)])] 5 (fun k : LK => [(0, ptr 0), (22, mslice 2 n cap), (23, iv (n : Nat)), (24, iv (k.i : Nat))]) (fun k => [(0, .own 99 [ptr 1, mslice 2 n cap, .map (some 4)]), (1, diskI S D), (2, .lst 105 3 cap (fs.flatMap frv)), (4, .mp (k.M.map kI) (k.M.map vI))]) (fun k => n - k.i) (fun k => k.i ≤ n ∧ k.M = lastM (fs.take k.i)) ⟨0, []⟩ ⟨Nat.zero_le _, lastM_0 fs⟩ ⟨[(0, some 0), (1, some 1), (2, some 2), (4, some 4)], Sub.q cvLogMore3 (by rfl) (by rfl)⟩ (fun k hk => ?_)) | (guard_hyp k : LK; rcases k with ⟨i, M2⟩; dsimp only at hk ⊢; have hki := hk.1) | (guard_target =~ ∃ (_ : Nat), _ ∧ _; first | refine ⟨i, rfl, by omega, ?_⟩ | refine ⟨i, by omega, by omega, ?_⟩ | refine ⟨n, rfl, by omega, ?_⟩) | (obtain ⟨f, hf⟩ : ∃ f, fs[i]? = some f := ⟨_, List.getElem?_eq_getElem omT⟩; refine onS_in (sub_flat (f := frv) (n := 3) (fun _ => rfl) hf omT) ?_) | (guard_target =~ ∃ ks' vs', PutOb _ _ _ _ ks' vs' ∧ _; refine ⟨_, _, put_last, ?_⟩) | (with_reducible first | refine chk_in (Nat.ble_eq_true_of_le omT) ?_ | (refine ifB_in ?_ ?_ <;> intro hb <;> (try simp only [bN1, bN2, bN3, bN4, bN5, bN6, bN7, bN8, bN9, bN0] at hb) <;> (try (exfalso; omega))) | refine ⟨_, w64b _, ?_⟩ | refine ⟨_, w64 omT omT, ?_⟩ | refine ⟨_, wu64 omT omT, ?_⟩ | refine ⟨_, wu8 omT omT, ?_⟩ | refine ⟨_, w64 szT szT, ?_⟩ | refine ⟨_, rfl, ?_⟩ | refine ⟨rfl, ?_⟩) | intro cap | (with_reducible refine ⟨trivial, ?_⟩) | (guard_target =~ (planChk _ _ = true) ∧ _; refine ⟨by kernel_rfl, ?_⟩) | (guard_target =~ (_ ∧ _) ∧ _; refine ⟨by ((repeat (first | exact trivial | refine ⟨rfl, ?_⟩)); (first | done | fail)), ?_⟩) | refine ⟨by omega, ?_⟩ | refine ⟨szT, ?_⟩ | refine ⟨0, rfl, ?_⟩ | refine ⟨1, rfl, ?_⟩ | refine ⟨2, rfl, ?_⟩ | refine ⟨3, rfl, ?_⟩ | refine ⟨4, rfl, ?_⟩ | refine ⟨5, rfl, ?_⟩ | (refine cell_at1 (by assumption) ?_) | (refine cell_in1 omT (fun x hx => ?_)) | fail)) <;> (try (conv => whnf))
 all_goals first
  | (guard_hyp hf : fs[i]? = some f; (refine Again.go ((⟨i + 1, putI M2 f.1 (i : Nat)⟩ : LK)) ?_ (by (try dsimp only); omega) [(0, some 0), (1, some 1), (2, some 2), (4, some 4)] (Sub.q cvLogMore3 (by rfl) (by rfl))); exact ⟨by dsimp only; omega, by dsimp only; rw [lastM_take hf, hk.2]⟩)
  | (have e : n = i := (by omega); subst e; have hM := hk.2; subst hM; (refine Ends.go (cap) ?_ [(0, some 0), (1, some 1), (30, some 2), (31, some 4)] (Fit.q cvLogMore3 (by rfl) (by rfl))); rfl)
  | trace_state
set_option maxRecDepth 100000 in
theorem lkeep0_c (S : Nat → Prop) (D : DM) :
 CallOb Tryz.prog 58 [ptr 0, iv 0] [(0, .own 99 [ptr 1, mslice 2 0 0, .map none]), (1, diskI S D), (2, .lst 105 3 0 [])] 3 (fun v h m => ∃ z : Nat, z = 0 ∧ v = .tuple ([] : List Value).toArray ∧ h = [(0, .own 99 [ptr 1, mslice 30 0 z, .map (some 31)]), (1, diskI S D), (30, .lst 105 3 z []), (31, .mp [] [])] ∧ m = 60) := by
 refine call_spec tabOk mixed Tryz.call58 Tryz.func58 rfl [(5, [(0, true), (1, true), (2, true), (3, true), (4, true), (5, true), (6, true), (1007, false)])] (fun z : Nat => z = 0) (fun _ => .tuple ([] : List Value).toArray) (fun z => [(0, .own 99 [ptr 1, mslice 30 0 z, .map (some 31)]), (1, diskI S D), (30, .lst 105 3 z []), (31, .mp [] [])]) (fun _ => 60) ?_ ?_
 · exact (Nat.le_of_ble_eq_true rfl)
 (repeat' ((try (conv => whnf)); first | (guard_target =~ ∃ (_ : Value), ∃ (_ : HP), ∃ (_ : HP), _; refine ⟨_, _, _, rnLogMore1, ?_⟩; (try (dsimp only [Nat.reduceAdd, bC, bL]))) | (guard_target =~ LoopOb _ _ _ _ _ _ _ _; refine loop_rule tabOk mixed [(5, [(0, true), (1, true), (2, true), (3, true), (4, true), (5, true), (6, true), (1007, false)])] 4 (fun k : Nat => [(0, ptr 0), (22, mslice 2 0 0), (23, iv 0), (24, iv 0)]) (fun k => [(0, .own 99 [ptr 1, mslice 2 0 0, .map (some 3)]), (1, diskI S D), (2, .lst 105 3 0 []), (3, .mp [] [])]) (fun k => 0) (fun k => True) 0 trivial ⟨[(0, some 0), (1, some 1), (2, some 2), (3, some 3)], Sub.q cvLogMore3 (by rfl) (by rfl)⟩ (fun k hk => ?_)) | (with_reducible first | refine chk_in (Nat.ble_eq_true_of_le omT) ?_ | (refine ifB_in ?_ ?_ <;> intro hb <;> (try simp only [bN1, bN2, bN3, bN4, bN5, bN6, bN7, bN8, bN9, bN0] at hb) <;> (try (exfalso; omega))) | refine ⟨_, w64b _, ?_⟩ | refine ⟨_, w64 omT omT, ?_⟩ | refine ⟨_, wu64 omT omT, ?_⟩ | refine ⟨_, wu8 omT omT, ?_⟩ | refine ⟨_, w64 szT szT, ?_⟩ | refine ⟨_, rfl, ?_⟩ | refine ⟨rfl, ?_⟩) | intro cap | (with_reducible refine ⟨trivial, ?_⟩) | (guard_target =~ (planChk _ _ = true) ∧ _; refine ⟨by kernel_rfl, ?_⟩) | (guard_target =~ (_ ∧ _) ∧ _; refine ⟨by ((repeat (first | exact trivial | refine ⟨rfl, ?_⟩)); (first | done | fail)), ?_⟩) | refine ⟨by omega, ?_⟩ | refine ⟨szT, ?_⟩ | refine ⟨0, rfl, ?_⟩ | refine ⟨1, rfl, ?_⟩ | refine ⟨2, rfl, ?_⟩ | refine ⟨3, rfl, ?_⟩ | refine ⟨4, rfl, ?_⟩ | refine ⟨5, rfl, ?_⟩ | (refine cell_at1 (by assumption) ?_) | (refine cell_in1 omT (fun x hx => ?_)) | fail)) <;> (try (conv => whnf))
 all_goals first
  | ((refine Ends.go (0) ?_ [(0, some 0), (1, some 1), (30, some 2), (31, some 3)] (Fit.q cvLogMore3 (by rfl) (by rfl))); rfl)
  | trace_state
theorem open_vals (s : ByteArray) : ∃ (k n st e : Int) (d : ByteArray), openV s = .agg #[.int .i64 k, .int .i64 n, .int .u64 st, .string d] ∧ openE s = e ∧ (e = 0 → k = (kindAt (bytesOf s) : Nat) ∧ n = (numberAt (bytesOf s) : Nat) ∧ st = (saltAt (bytesOf s) : Nat)) ∧ (0 ≤ n ∧ n ≤ 4294967295) := by
 unfold openV openE
 by_cases h : isSeal (bytesOf s) = true
 · rw [if_pos h, if_pos h]
   exact ⟨_, _, _, _, _, rfl, rfl, fun _ => ⟨rfl, rfl, rfl⟩, by have := numberAt_lt (bytesOf s); omega⟩
 · rw [if_neg h, if_neg h]
   refine ⟨_, _, _, _, _, rfl, rfl, fun e => ?_, by decide⟩
   split at e <;> cases e
theorem right_is {c : Int} {s : ByteArray} {k n st e : Int} (ho2 : openE s = e) (ho3 : e = 0 → k = (kindAt (bytesOf s) : Nat) ∧ n = (numberAt (bytesOf s) : Nat) ∧ st = (saltAt (bytesOf s) : Nat)) :
 (e = 0 → (k = 5 ∨ k = 6) → n < 4096 → st = c → rightR c s = some (n, sumS s, decide (k = 6))) ∧ (¬ (e = 0 ∧ (k = 5 ∨ k = 6) ∧ n < 4096 ∧ st = c) → rightR c s = none) := by
 unfold rightR
 refine ⟨fun h1 h2 h3 h4 => ?_, fun h => ?_⟩
 · obtain ⟨q1, q2, q3⟩ := ho3 h1
   rw [if_pos ⟨ho2.trans h1, by omega, by omega, by omega⟩, ← q2]
   have : decide (kindAt (bytesOf s) = 6) = decide (k = 6) := by rw [q1]; exact decide_eq_decide.2 (by omega)
   rw [this]
 · rw [if_neg]
   rintro ⟨h1, h2, h3, h4⟩
   obtain ⟨q1, q2, q3⟩ := ho3 (ho2.symm.trans h1)
   exact h ⟨ho2.symm.trans h1, by omega, by omega, by omega⟩
attribute [local irreducible] openE openV
set_option maxRecDepth 100000 in
theorem lright_c (M : List (Int × Int)) (fs : List Fr) (cap : Nat) (S : Nat → Prop) (D : DM) (hc : fs.length ≤ cap) (hl : fs.length ≤ 100000) (s : ByteArray) :
 CallOb Tryz.prog 91 [ptr 0, .string s] (lgX M fs cap S D) 4 (fun v h m => ∃ x : Fr × Bool, ((x.2 = true → rightR (sumL fs) s = some x.1) ∧ (x.2 = false → rightR (sumL fs) s = none)) ∧ v = .tuple #[.agg (frv x.1).toArray, .bool x.2] ∧ h = lgX M fs cap S D ∧ m = 60) := by
 refine call_spec tabOk mixed Tryz.call91 Tryz.func91 rfl [] (fun x : Fr × Bool => (x.2 = true → rightR (sumL fs) s = some x.1) ∧ (x.2 = false → rightR (sumL fs) s = none)) (fun x => .tuple #[.agg (frv x.1).toArray, .bool x.2]) (fun _ => lgX M fs cap S D) (fun _ => 60) ?_ ?_
 · exact (Nat.le_of_ble_eq_true rfl)
 have hsm := fun w => sealSum_any s w
 have hse : ((sumAt (bytesOf s) : Nat) : Int) = sumS s := by unfold sumS; rfl
 rw [hse] at hsm
 obtain ⟨ok, on, os, oe, od, ho1, ho2, ho3, ho4⟩ := open_vals s
 have hop := fun w => open_any s w
 rw [ho1, ho2] at hop
 obtain ⟨R1, R2⟩ := right_is (c := sumL fs) ho2 ho3
 (repeat' ((try (conv => whnf)); first | (guard_target =~ ∃ (_ : Value), ∃ (_ : HP), ∃ (_ : HP), _; refine ⟨_, _, _, rnLogMore1, ?_⟩; (try (dsimp only [Nat.reduceAdd, bC, bL]))) | (guard_target =~ RegOb _ _ _ 3 _ _ _ _ _; refine reg_hold tabOk mixed [4] [(0, true), (1, true), (2, true), (4, true), (5, true), (6, true), (8, true), (9, true), (3, false), (7, true), (10, true), (11, true), (12, true), (13, true), (14, true), (15, true), (16, true), (17, true), (18, true), (19, true), (20, true), (21, true), (22, false), (23, true), (24, true), (25, false), (26, true)] (by kernel_rfl) ?_) | (guard_target =~ CallOb _ 111 _ _ _ _; (with_reducible refine call_pure Tryz.call111 (hop) ?_ ?_ ?_); exact rfl; exact rfl) | (guard_target =~ CallOb _ 75 _ _ _ _; (with_reducible refine call_pure Tryz.call75 (hsm) ?_ ?_ ?_); exact rfl; exact rfl) | (guard_target =~ CallOb _ 74 _ _ _ _; refine call_q (lsum_c M fs cap S D hc hl) [(0, some 0), (1, some 1), (2, some 2), (3, some 3)] cvLogMore3 rfT rfT rfT (fun v h1 n1 hp => ?_); obtain ⟨sl, hsl, rfl, rfl, rfl⟩ := hp; (try (dsimp only [Nat.reduceAdd, bC, bL]))) | (guard_target =~ extH _ _ _ ∧ _; refine ⟨by (repeat' ((try (conv => whnf)); first | exact True.intro | exact trivial | (refine ⟨rfl, ?_⟩))); (first | done | fail), ?_⟩) | (with_reducible first | refine chk_in (Nat.ble_eq_true_of_le omT) ?_ | (refine ifB_in ?_ ?_ <;> intro hb <;> (try simp only [bN1, bN2, bN3, bN4, bN5, bN6, bN7, bN8, bN9, bN0] at hb) <;> (try (exfalso; omega))) | refine ⟨_, w64b _, ?_⟩ | refine ⟨_, w64 omT omT, ?_⟩ | refine ⟨_, wu64 omT omT, ?_⟩ | refine ⟨_, wu8 omT omT, ?_⟩ | refine ⟨_, w64 szT szT, ?_⟩ | refine ⟨_, rfl, ?_⟩ | refine ⟨rfl, ?_⟩) | intro cap | (with_reducible refine ⟨trivial, ?_⟩) | (guard_target =~ (planChk _ _ = true) ∧ _; refine ⟨by kernel_rfl, ?_⟩) | (guard_target =~ (_ ∧ _) ∧ _; refine ⟨by ((repeat (first | exact trivial | refine ⟨rfl, ?_⟩)); (first | done | fail)), ?_⟩) | refine ⟨by omega, ?_⟩ | refine ⟨szT, ?_⟩ | refine ⟨0, rfl, ?_⟩ | refine ⟨1, rfl, ?_⟩ | refine ⟨2, rfl, ?_⟩ | refine ⟨3, rfl, ?_⟩ | refine ⟨4, rfl, ?_⟩ | refine ⟨5, rfl, ?_⟩ | (refine cell_at1 (by assumption) ?_) | (refine cell_in1 omT (fun x hx => ?_)) | fail)) <;> (try (conv => whnf))
 all_goals first
  | (guard_hyp hsl : sl = sumL fs; (refine Ends.go (((on, sumS s, decide (ok = 6)), decide (os = sl))) ?_ [(0, some 0), (1, some 1), (2, some 2), (3, some 3)] (Fit.q cvLogMore3 (by rfl) (by rfl))); refine ⟨fun h => R1 ‹oe = 0› (by omega) hb (by rw [← hsl]; exact of_decide_eq_true h), fun h => R2 (fun hh => of_decide_eq_false h (by rw [hsl]; exact hh.2.2.2))⟩)
  | ((refine Ends.go (((on, sumS s, decide (ok = 6)), false)) ?_ [(0, some 0), (1, some 1), (2, some 2), (3, some 3)] (Fit.q cvLogMore3 (by rfl) (by rfl))); exact ⟨fun h => (by cases h), fun _ => R2 (fun hh => by omega)⟩)
  | trace_state
structure LR4 where
 i : Nat
 fs : List Fr
 cap : Nat
 D : DM
 S : Nat → Prop
structure LRR (D0 : DM) (N : Int) (sz : Nat) (k : LR4) : Prop where
 le : k.i ≤ sz
 run : readL (sz - k.i) k.i k.fs k.D = readL sz 0 [] D0
 ok : k.D.OkN (N + (k.i : Nat))
 cap : k.fs.length ≤ k.cap
 few : k.fs.length ≤ k.i
 size : sizeD k.D logN = (sz : Nat)
section
variable {m i : Nat} {fs : List Fr} {D D' : DM} {s : ByteArray} {e : Int} (hr : ((s, e), D') = readD D logN (i : Nat))
include hr
theorem readL_torn (h : e = 13) : readL (m + 1) i fs D = ((decide (0 < i), 0, fs), D') := by
 unfold readL; dsimp only; rw [← hr]; dsimp only; rw [if_pos h]
theorem readL_err (h : ¬ e = 13) (h0 : ¬ e = 0) : readL (m + 1) i fs D = ((false, e, fs), D') := by
 unfold readL; dsimp only; rw [← hr]; dsimp only; rw [if_neg h, if_pos h0]
variable (h : e = 0)
include h
theorem readL_bad (hi : i = 0) (hs : s ≠ topS) : readL (m + 1) i fs D = ((false, 0, fs), D') := by
 unfold readL; dsimp only; rw [← hr]; dsimp only; rw [if_neg (by omega), if_neg (by omega), if_pos hi, if_neg hs]
theorem readL_top (hi : i = 0) (hs : s = topS) : readL (m + 1) i fs D = readL m (i + 1) fs D' := by
 conv => lhs; unfold readL
 dsimp only; rw [← hr]; dsimp only; rw [if_neg (by omega), if_neg (by omega), if_pos hi, if_pos hs, hi]
theorem readL_stop (hi : ¬ i = 0) (hs : rightR (sumL fs) s = none) : readL (m + 1) i fs D = ((decide (0 < sizeD D' logN), 0, fs), D') := by
 unfold readL; dsimp only; rw [← hr]; dsimp only; rw [if_neg (by omega), if_neg (by omega), if_neg hi, hs]
theorem readL_go {f : Fr} (hi : ¬ i = 0) (hs : rightR (sumL fs) s = some f) : readL (m + 1) i fs D = readL m (i + 1) (fs ++ [f]) D' := by
 conv => lhs; unfold readL
 dsimp only; rw [← hr]; dsimp only; rw [if_neg (by omega), if_neg (by omega), if_neg hi, hs]
end
theorem LRR.next {D0 : DM} {N : Int} {sz : Nat} {k : LR4} (h : LRR D0 N sz k) (hi : k.i < sz) : ∃ m, sz - k.i = m + 1 ∧ sz - (k.i + 1) = m ∧ readL (m + 1) k.i k.fs k.D = readL sz 0 [] D0 := by
 refine ⟨sz - (k.i + 1), by omega, rfl, ?_⟩
 rw [show sz - (k.i + 1) + 1 = sz - k.i by omega]
 exact h.run
theorem readL_0 {i : Nat} {fs : List Fr} {D : DM} : readL 0 i fs D = ((decide (0 < sizeD D logN), 0, fs), D) := by unfold readL; rfl
attribute [local irreducible] readL
abbrev lgQ (fs : List Fr) (cap : Nat) (S : Nat → Prop) (D : DM) : HP := [(0, .own 99 [ptr 1, mslice 30 fs.length cap, .map (some 3)]), (1, diskI S D), (30, .lst 105 3 cap (fs.flatMap frv)), (3, .mp [] [])]
theorem cvLogMore4 {p : Prop} (h : p := by have nw := True.intro; (repeat' (first | exact True.intro | (with_reducible exact rfl) | (with_reducible exact AbsLe.refl) | (guard_target =~ @Eq Nat _ _; first | exact rfl | omega) | (guard_target =~ List.map _ _ = []; exact rfl) | (first | (guard_target =~ @Eq (List Value) _ _; exact rfl) | (guard_target =~ @Eq Nat _ _; dsimp only; exact (List.length_append).symm) | (guard_target =~ @Eq Nat _ _; dsimp only; rw [List.length_append]; rfl) | exact covL_of (app_flat rfl) (flat_bind (f := frv) (fun _ => rfl) _) | exact covL_of rfl (flat_bind (f := frv) (fun _ => rfl) _) | exact covL_of rfl (flat_map (fun _ => rfl) _) | first | exact covL_still rfl hvs | exact covL_still rfl (still_map (fun _ => rfl) _) | exact covL_still rfl (still_map ro_still _) | (apply covL_set <;> (try clear nw) <;> have nw := True.intro) | exact congrArg (Value.int _) (by (try dsimp only); omega)) | (exact congrArg (Value.int _) (by omega)) | (exact covL_flat (flat_map (fun _ => rfl) _)) | (exact covL_flat flat_nil) | (refine covP_all ?_; (try clear nw); have nw := True.intro) | (refine covL_each ?_; (try clear nw); have nw := True.intro) | (refine ⟨?_, ?_⟩ <;> (try clear nw) <;> have nw := True.intro) | (guard_hyp nw : True; ((conv => whnf) <;> clear nw)))); (first | done | fail)) : p := h
set_option maxRecDepth 100000 in
set_option maxHeartbeats 4000000 in
theorem lread_c (S : Nat → Prop) (D : DM) {N : Int} (hD : D.OkN N) (hN : N ≤ 900000000) (zz : Nat) (hzz : sizeD D logN = (zz : Nat)) :
 CallOb Tryz.prog 59 [ptr 0] [(0, .own 99 [ptr 1, mslice 2 0 0, .map (some 3)]), (1, diskI S D), (2, .lst 105 3 0 []), (3, .mp [] [])] 4 (fun v h m => ∃ x : (Bool × Int × List Fr) × DM × (Nat → Prop) × Nat, ((x.1, x.2.1) = readL zz 0 [] D ∧ x.1.2.2.length ≤ x.2.2.2) ∧ v = .tuple #[.bool x.1.1, iv x.1.2.1] ∧ h = lgQ x.1.2.2 x.2.2.2 x.2.2.1 x.2.1 ∧ m = 80) := by
 refine call_spec tabOk mixed Tryz.call59 Tryz.func59 rfl [(14, [(0, true), (1, true), (2, true), (3, true), (4, true), (5, true), (6, false), (1007, false), (8, true), (9, true), (1010, false)])] (fun x : (Bool × Int × List Fr) × DM × (Nat → Prop) × Nat => (x.1, x.2.1) = readL zz 0 [] D ∧ x.1.2.2.length ≤ x.2.2.2) (fun x => .tuple #[.bool x.1.1, iv x.1.2.1]) (fun x => lgQ x.1.2.2 x.2.2.2 x.2.2.1 x.2.1) (fun _ => 80) ?_ ?_
 · exact (Nat.le_of_ble_eq_true rfl)
 have hzb : zz ≤ 16384 := by have := sizeD_bound (up_ok hD (by omega)) logN; omega
 have mk0 : 1 = 1 := rfl
 (repeat' ((try (conv => whnf)); first | (guard_target =~ ∃ (_ : Value), ∃ (_ : HP), ∃ (_ : HP), _; refine ⟨_, _, _, rnLogMore1, ?_⟩; (try (dsimp only [Nat.reduceAdd, bC, bL]))) | (guard_target =~ CallOb _ 17 _ _ _ _; guard_hyp mk0 : 1 = 1; clear mk0; refine call_q (size_k S D (up_ok hD omT) logN) [(0, some 1)] cvLogMore4 rfT rfT rfT (fun v h1 n1 hp => ?_); obtain ⟨sz, S, hsz, rfl, rfl, rfl⟩ := hp; rw [hzz] at hsz; subst hsz; (try (dsimp only [Nat.reduceAdd, bC, bL]))) | (guard_target =~ LoopOb _ _ _ _ _ _ _ _; refine loop_rule tabOk mixed [(14, [(0, true), (1, true), (2, true), (3, true), (4, true), (5, true), (6, false), (1007, false), (8, true), (9, true), (1010, false)])] 5 (fun k : LR4 => [(0, ptr 0), (13, iv (zz : Nat)), (14, iv (k.i : Nat))]) (fun k => [(0, .own 99 [ptr 1, mslice 4 k.fs.length k.cap, .map (some 3)]), (1, diskI k.S k.D), (4, .lst 105 3 k.cap (k.fs.flatMap frv)), (3, .mp [] [])]) (fun k => zz - k.i) (fun k => LRR D N zz k) ⟨0, [], 0, D, S⟩ ⟨Nat.zero_le _, rfl, hD.mono (by dsimp only; omega), Nat.le_refl _, Nat.le_refl _, hzz⟩ ⟨[(0, some 0), (1, some 1), (4, some 2), (3, some 3)], Sub.q cvLogMore4 (by rfl) (by rfl)⟩ (fun k hk => ?_)) | (guard_hyp k : LR4; have hk2 := hk; rcases k with ⟨i, fs, cp, D1, S1⟩; dsimp only at hk hk2 ⊢; have hki := hk.le; have hko := hk.ok; have hkc := hk.cap; have hkf := hk.few; have hks := hk.size; dsimp only at hki hko hkc hkf hks) | (guard_target =~ CallOb _ 70 _ _ _ _; refine call_q (read_c S1 D1 (up_ok hko omT) logN (i : Nat) omT) [(0, some 1)] cvLogMore4 rfT rfT rfT (fun v h1 n1 hp => ?_); obtain ⟨⟨sr, er⟩, D2, S2, hr, rfl, rfl, rfl⟩ := hp; have hok2 := read_okN hko logN ((i : Nat) : Int); rw [← hr] at hok2; dsimp only at hok2; have hs2 := read_size D1 logN ((i : Nat) : Int) logN; rw [← hr] at hs2; dsimp only at hs2; obtain ⟨m, hm1, hm2, hm3⟩ := hk.next (by dsimp only; omega); dsimp only at hm1 hm2 hm3; (try (dsimp only [Nat.reduceAdd, bC, bL]))) | (guard_target =~ CallOb _ 72 _ _ _ _; (with_reducible refine call_pure Tryz.call72 (ltop_c) ?_ ?_ ?_); exact rfl; exact rfl) | (guard_target =~ CallOb _ 91 _ _ _ _; refine call_q (lright_c [] fs cp S2 D2 hkc omT sr) [(0, some 0), (1, some 1), (2, some 4), (3, some 3)] cvLogMore4 rfT rfT rfT (fun v h1 n1 hp => ?_); obtain ⟨⟨f, ok⟩, ⟨hf1, hf2⟩, rfl, rfl, rfl⟩ := hp; dsimp only at hf1 hf2; (try (dsimp only [Nat.reduceAdd, bC, bL]))) | (guard_target =~ CallOb _ 17 _ _ _ _; first | (guard_hyp hr : ((sr, er), D2) = _; refine call_q (size_k S2 D2 (up_ok hok2 omT) logN) [(0, some 1)] cvLogMore4 rfT rfT rfT (fun v h1 n1 hp => ?_); obtain ⟨sz, S2, hsz, rfl, rfl, rfl⟩ := hp; (try (dsimp only [Nat.reduceAdd, bC, bL]))) | (refine call_q (size_k S1 D1 (up_ok hko omT) logN) [(0, some 1)] cvLogMore4 rfT rfT rfT (fun v h1 n1 hp => ?_); obtain ⟨sz, S1, hsz, rfl, rfl, rfl⟩ := hp; (try (dsimp only [Nat.reduceAdd, bC, bL])))) | (refine ⟨frs_len _, ?_⟩) | (with_reducible first | refine chk_in (Nat.ble_eq_true_of_le omT) ?_ | (refine ifB_in ?_ ?_ <;> intro hb <;> (try simp only [bN1, bN2, bN3, bN4, bN5, bN6, bN7, bN8, bN9, bN0] at hb) <;> (try (exfalso; omega))) | refine ⟨_, w64b _, ?_⟩ | refine ⟨_, w64 omT omT, ?_⟩ | refine ⟨_, wu64 omT omT, ?_⟩ | refine ⟨_, wu8 omT omT, ?_⟩ | refine ⟨_, w64 szT szT, ?_⟩ | refine ⟨_, rfl, ?_⟩ | refine ⟨rfl, ?_⟩) | intro cap | (with_reducible refine ⟨trivial, ?_⟩) | (guard_target =~ (planChk _ _ = true) ∧ _; refine ⟨by kernel_rfl, ?_⟩) | (guard_target =~ (_ ∧ _) ∧ _; refine ⟨by ((repeat (first | exact trivial | refine ⟨rfl, ?_⟩)); (first | done | fail)), ?_⟩) | refine ⟨by omega, ?_⟩ | refine ⟨szT, ?_⟩ | refine ⟨0, rfl, ?_⟩ | refine ⟨1, rfl, ?_⟩ | refine ⟨2, rfl, ?_⟩ | refine ⟨3, rfl, ?_⟩ | refine ⟨4, rfl, ?_⟩ | refine ⟨5, rfl, ?_⟩ | (refine cell_at1 (by assumption) ?_) | (refine cell_in1 omT (fun x hx => ?_)) | fail)) <;> (try (conv => whnf))
 all_goals first
  | (guard_hyp hb : er = 13; (refine Ends.go (((decide (((i : Nat) : Int) > 0), 0, fs), D2, S2, cp)) ?_ [(0, some 0), (1, some 1), (30, some 4), (3, some 3)] (Fit.q cvLogMore4 (by rfl) (by rfl))); exact ⟨by dsimp only; rw [dec_pos]; exact (readL_torn hr hb).symm.trans hm3, hkc⟩)
  | (guard_hyp hb : ¬ er = 0; (refine Ends.go (((false, er, fs), D2, S2, cp)) ?_ [(0, some 0), (1, some 1), (30, some 4), (3, some 3)] (Fit.q cvLogMore4 (by rfl) (by rfl))); exact ⟨(readL_err hr ‹¬ er = 13› hb).symm.trans hm3, hkc⟩)
  | (guard_hyp hb : strEq sr topS = false; (refine Ends.go (((false, 0, fs), D2, S2, cp)) ?_ [(0, some 0), (1, some 1), (30, some 4), (3, some 3)] (Fit.q cvLogMore4 (by rfl) (by rfl))); exact ⟨(readL_bad hr ‹er = 0› (by omega) (strEq_ne hb)).symm.trans hm3, hkc⟩)
  | (guard_hyp hb : ok = false; (refine Ends.go (((decide (sz > 0), 0, fs), D2, S2, cp)) ?_ [(0, some 0), (1, some 1), (30, some 4), (3, some 3)] (Fit.q cvLogMore4 (by rfl) (by rfl))); exact ⟨by dsimp only; rw [hsz]; exact (readL_stop hr ‹er = 0› (by omega) (hf2 hb)).symm.trans hm3, hkc⟩)
  | (guard_hyp hb : ok = true; rename_i cpn; (refine Again.go ((⟨i + 1, fs ++ [f], cpn, D2, S2⟩ : LR4)) ?_ (by (try dsimp only); omega) [(0, some 0), (1, some 1), (4, some _), (3, some 3)] (Sub.q cvLogMore4 (by rfl) (by rfl))); exact ⟨by dsimp only; omega, by dsimp only; rw [hm2]; exact (readL_go hr ‹er = 0› (by omega) (hf1 hb)).symm.trans hm3, hok2.mono (by dsimp only; omega), by dsimp only; rw [List.length_append]; assumption, by dsimp only; rw [List.length_append, List.length_singleton]; omega, hs2.trans hks⟩)
  | (guard_hyp hr : ((sr, er), D2) = readD D1 logN (i : Nat); (refine Again.go ((⟨i + 1, fs, cp, D2, S2⟩ : LR4)) ?_ (by (try dsimp only); omega) [(0, some 0), (1, some 1), (4, some 4), (3, some 3)] (Sub.q cvLogMore4 (by rfl) (by rfl))); exact ⟨by dsimp only; omega, by dsimp only; rw [hm2]; exact (readL_top hr ‹er = 0› (by omega) (strEq_is ‹strEq sr topS = true›)).symm.trans hm3, hok2.mono (by dsimp only; omega), hkc, by dsimp only; omega, hs2.trans hks⟩)
  | ((refine Ends.go (((decide (sz > 0), 0, fs), D1, S1, cp)) ?_ [(0, some 0), (1, some 1), (30, some 4), (3, some 3)] (Fit.q cvLogMore4 (by rfl) (by rfl))); refine ⟨?_, hkc⟩; have hq := hk.run; dsimp only at hq ⊢; rw [show zz - i = 0 by omega, readL_0] at hq; rw [hsz]; exact hq)
  | trace_state
end Go.Proofs.YtcojbjakopkfbaaGreat
namespace Go.Proofs.YtcojbjakopkfbaaGreat
open Go.RowKit
set_option linter.unusedSimpArgs false
set_option linter.unusedVariables false
theorem readL_no : ∀ (m i : Nat) {fs : List Fr} {D : DM}, (0 < i + m → 0 < sizeD D logN) → (readL m i fs D).1.1 = false → (readL m i fs D).1.2.1 = 0 → i = 0 ∧ (readL m i fs D).1.2.2 = fs
 | 0, i, fs, D, h, h1, h2 => by
  rw [readL_0] at h1 ⊢
  dsimp only at h1 ⊢
  refine ⟨?_, rfl⟩
  rcases Nat.eq_zero_or_pos i with h0 | h0
  · exact h0
  · have := h (by omega)
    rw [decide_eq_true this] at h1
    cases h1
 | m + 1, i, fs, D, h, h1, h2 => by
  obtain ⟨⟨⟨s, e⟩, D'⟩, hr⟩ : ∃ r, r = readD D logN (i : Nat) := ⟨_, rfl⟩
  have hs := read_size D logN ((i : Nat) : Int) logN
  rw [← hr] at hs
  dsimp only at hs
  have hz := h (by omega)
  by_cases e13 : e = 13
  · rw [readL_torn hr e13] at h1 ⊢
    dsimp only at h1 ⊢
    exact ⟨by have := of_decide_eq_false h1; omega, rfl⟩
  · by_cases e0 : e = 0
    · by_cases h0 : i = 0
      · by_cases hst : s = topS
        · rw [readL_top hr e0 h0 hst] at h1 h2
          have := (readL_no m (i + 1) (fs := fs) (D := D') (fun _ => by rw [hs]; exact hz) h1 h2).1
          omega
        · rw [readL_bad hr e0 h0 hst]; exact ⟨h0, rfl⟩
      · cases hrt : rightR (sumL fs) s with
        | none => rw [readL_stop hr e0 h0 hrt, decide_eq_true (by rw [hs]; exact hz)] at h1; cases h1
        | some f =>
         rw [readL_go hr e0 h0 hrt] at h1 h2
         have := (readL_no m (i + 1) (fs := fs ++ [f]) (D := D') (fun _ => by rw [hs]; exact hz) h1 h2).1
         omega
    · rw [readL_err hr e13 e0] at h2
      exact absurd h2 e0
theorem readL_few : ∀ (m i : Nat) {fs : List Fr} {D : DM}, (readL m i fs D).1.2.2.length ≤ fs.length + m
 | 0, i, fs, D => by rw [readL_0]; exact Nat.le_refl _
 | m + 1, i, fs, D => by
  obtain ⟨⟨⟨s, e⟩, D'⟩, hr⟩ : ∃ r, r = readD D logN (i : Nat) := ⟨_, rfl⟩
  by_cases e13 : e = 13
  · rw [readL_torn hr e13]; exact Nat.le_add_right _ _
  · by_cases e0 : e = 0
    · by_cases h0 : i = 0
      · by_cases hst : s = topS
        · rw [readL_top hr e0 h0 hst]
          exact Nat.le_trans (readL_few m (i + 1)) (by omega)
        · rw [readL_bad hr e0 h0 hst]; exact Nat.le_add_right _ _
      · cases hrt : rightR (sumL fs) s with
        | none => rw [readL_stop hr e0 h0 hrt]; exact Nat.le_add_right _ _
        | some f =>
         rw [readL_go hr e0 h0 hrt]
         refine Nat.le_trans (readL_few m (i + 1)) ?_
         rw [List.length_append, List.length_singleton]; omega
    · rw [readL_err hr e13 e0]; exact Nat.le_add_right _ _
theorem trimR_go {l : List Fr} {j : Nat} {f : Fr} (hj : j ≤ l.length) (h : trimR l = trimR (l.take j)) (h0 : 0 < j) (hf : l[j - 1]? = some f) (hc : f.2.2 = false) : trimR l = trimR (l.take (j - 1)) := by
 rw [h]
 have e : l.take j = l.take (j - 1) ++ [f] := by
  obtain ⟨k, rfl⟩ : ∃ k, j = k + 1 := ⟨j - 1, by omega⟩
  rw [Nat.add_sub_cancel] at hf ⊢
  rw [List.take_add_one, hf]; rfl
 rw [e]
 have snoc : ∀ (r : List Fr), trimR (r ++ [f]) = trimR r := fun r => by
  induction r with
  | nil =>
   show (match trimR [], f.2.2 with | [], false => [] | t, _ => f :: t) = _
   rw [hc]; rfl
  | cons g r ih =>
   show (match trimR (r ++ [f]), g.2.2 with | [], false => [] | t, _ => g :: t) = _
   rw [ih]; rfl
 exact snoc _
theorem trimR_end {l : List Fr} {j : Nat} (h : trimR l = trimR (l.take j)) (hc : j = 0 ∨ (0 < j ∧ ∃ f, l[j - 1]? = some f ∧ f.2.2 = true)) : trimR l = l.take j := by
 rw [h]
 rcases hc with rfl | ⟨h0, f, hf, hc⟩
 · rw [List.take_zero]; rfl
 · have e : l.take j = l.take (j - 1) ++ [f] := by
    obtain ⟨k, rfl⟩ : ∃ k, j = k + 1 := ⟨j - 1, by omega⟩
    rw [Nat.add_sub_cancel] at hf ⊢
    rw [List.take_add_one, hf]; rfl
   rw [e]
   have snoc : ∀ (r : List Fr), trimR (r ++ [f]) = r ++ [f] := fun r => by
    induction r with
    | nil =>
     show (match trimR [], f.2.2 with | [], false => [] | t, _ => f :: t) = _
     rw [hc]; rfl
    | cons g r ih =>
     show (match trimR (r ++ [f]), g.2.2 with | [], false => [] | t, _ => g :: t) = _
     rw [ih]
     cases r <;> rfl
   exact snoc _
section
variable {D D1 D2 : DM} {z : Nat} {rt : Bool} {e : Int} {fs : List Fr}
theorem open_neg (h : sizeD D logN < 0) : openL D = ((0, []), D) := by unfold openL; rw [if_pos h]
variable (hz : sizeD D logN = (z : Nat)) (hr : ((rt, e, fs), D1) = readL z 0 [] D)
include hz hr
theorem open_is : openL D = openR ((rt, e, fs), D1) := by
 unfold openL
 rw [if_neg (by omega), hz, Int.toNat_natCast, ← hr]
theorem open_err (h : ¬ e = 0) : openL D = ((e, []), D1) := by
 rw [open_is hz hr]; unfold openR; rw [if_pos h]
theorem open_drop (h : e = 0) (h1 : rt = false) {ed : Int} (hd : (ed, D2) = dropD D1 logN) : openL D = ((ed, []), D2) := by
 rw [open_is hz hr]; unfold openR; dsimp only; rw [if_neg (fun hh => hh h), if_pos h1, ← hd]
theorem open_fs (h : e = 0) (h1 : rt = false) : fs = [] := by
 have := readL_no z 0 (fs := []) (D := D) (fun h => by omega)
 rw [← hr] at this
 exact (this h1 h).2
variable (h : e = 0) (h1 : rt = true) {j : Nat} (hj : j ≤ fs.length) (ht : trimR fs = fs.take j)
include h h1 hj ht
omit hz hr h h1 in
theorem trimL_len : ((trimR fs).length : Int) = (j : Nat) := by rw [ht, List.length_take]; omega
theorem open_cut (hs : (1 + ((j : Nat) : Int)) < sizeD D1 logN) {ec : Int} (hd : (ec, D2) = cutD D1 logN (1 + ((j : Nat) : Int))) : (¬ ec = 0 → openL D = ((ec, []), D2)) ∧ (ec = 0 → openL D = ((0, fs.take j), D2)) := by
 have hl := trimL_len hj ht
 rw [open_is hz hr]
 unfold openR
 dsimp only
 rw [if_neg (fun hh => hh h), if_neg (by rw [h1]; decide), hl, if_pos hs, ← hd]
 dsimp only
 exact ⟨fun he => by rw [if_pos he], fun he => by rw [if_neg (fun hh => hh he), ht]⟩
theorem open_keep (hs : ¬ (1 + ((j : Nat) : Int)) < sizeD D1 logN) : openL D = ((0, fs.take j), D1) := by
 have hl := trimL_len hj ht
 rw [open_is hz hr]
 unfold openR
 dsimp only
 rw [if_neg (fun hh => hh h), if_neg (by rw [h1]; decide), hl, if_neg hs, ht]
end
attribute [local irreducible] numOf fixedL bytesOf strOf strEq strLt sfrom closeS closeE writeD sizeD syncD cutD dropD readD topS sumS sumL rightR lastM readL openL trimR
abbrev lgO (n : Nat) (fs : List Fr) (cap : Nat) (S : Nat → Prop) (D : DM) : HP := [(0, diskI S D), (10, .own 99 [ptr 0, mslice 11 n cap, .map (some 12)]), (11, .lst 105 3 cap (fs.flatMap frv)), (12, mpI fs)]
structure LX where
 n : Nat
 fs : List Fr
 cap : Nat
 S : Nat → Prop
 D : DM
abbrev lxV : LX ⊕ (Int × DM × (Nat → Prop)) → Value
 | .inl _ => .tuple #[ptr 10, iv 0]
 | .inr x => .tuple #[.pointer none, iv x.1]
abbrev lxH : LX ⊕ (Int × DM × (Nat → Prop)) → HP
 | .inl x => lgO x.n x.fs x.cap x.S x.D
 | .inr x => [(0, diskI x.2.2 x.2.1)]
def lxR (D : DM) : LX ⊕ (Int × DM × (Nat → Prop)) → Prop
 | .inl x => ((0, x.fs), x.D) = openL D ∧ x.fs.length ≤ x.cap ∧ x.n = x.fs.length
 | .inr x => ((x.1, []), x.2.1) = openL D ∧ x.1 ≠ 0
theorem cvLogMore5 {p : Prop} (h : p := by have nw := True.intro; (repeat' (first | exact True.intro | (with_reducible exact rfl) | (with_reducible exact AbsLe.refl) | (guard_target =~ @Eq Nat _ _; first | exact rfl | omega) | (guard_target =~ List.map _ _ = []; exact rfl) | (first | (guard_target =~ @Eq (List Value) _ _; exact rfl) | (guard_target =~ @Eq (List Value) _ _; first | exact (congrArg (List.map kI) lastM_nil) | exact (congrArg (List.map kI) lastM_nil).symm) | exact covL_of (congrArg (List.map vI) lastM_nil).symm (flat_map (fun _ => rfl) _) | exact covL_of (congrArg (List.map vI) lastM_nil) (flat_map (fun _ => rfl) _) | exact covP_take (j * 3) (covL_of (take_frs fs j) (flat_bind (f := frv) (fun _ => rfl) _)) | exact covL_of rfl (flat_bind (f := frv) (fun _ => rfl) _) | exact covL_of rfl (flat_map (fun _ => rfl) _) | (guard_target =~ @Eq Nat _ _; rw [List.length_take]; omega) | first | exact covL_still rfl hvs | exact covL_still rfl (still_map (fun _ => rfl) _) | exact covL_still rfl (still_map ro_still _) | (apply covL_set <;> (try clear nw) <;> have nw := True.intro) | exact congrArg (Value.int _) (by (try dsimp only); omega)) | (exact congrArg (Value.int _) (by omega)) | (exact covL_flat (flat_map (fun _ => rfl) _)) | (exact covL_flat flat_nil) | (refine covP_all ?_; (try clear nw); have nw := True.intro) | (refine covL_each ?_; (try clear nw); have nw := True.intro) | (refine ⟨?_, ?_⟩ <;> (try clear nw) <;> have nw := True.intro) | (guard_hyp nw : True; ((conv => whnf) <;> clear nw)))); (first | done | fail)) : p := h
set_option maxRecDepth 100000 in
set_option maxHeartbeats 4000000 in
theorem lopen_e (S : Nat → Prop) (D : DM) {N : Int} (hD : D.OkN N) (hN : N ≤ 800000000) :
 CallOb Tryz.prog 15 [ptr 0] [(0, diskI S D)] 1 (fun v h m => ∃ x : LX ⊕ (Int × DM × (Nat → Prop)), lxR D x ∧ v = lxV x ∧ h = lxH x ∧ m = 800) := by
 refine call_spec tabOk mixed Tryz.call15 Tryz.func15 rfl [(12, [(0, true), (1, true), (2, true), (3, true), (4, true), (5, true), (6, true), (7, true), (8, true), (9, true), (10, true), (11, true), (12, true), (13, true), (14, true), (15, true), (16, true), (17, true), (18, true), (19, true), (20, true), (21, true)]), (13, [(0, true), (1, true), (2, true), (3, true), (4, true), (5, true), (6, true), (7, true), (8, true), (9, true), (10, true), (11, true), (12, true), (13, true), (1014, false)])] (lxR D) lxV lxH (fun _ => 800) ?_ ?_
 · exact (Nat.le_of_ble_eq_true rfl)
 have mk0 : 1 = 1 := rfl
 (repeat' ((try (conv => whnf)); first | (guard_target =~ ∃ (_ : Value), ∃ (_ : HP), ∃ (_ : HP), _; refine ⟨_, _, _, rnLogMore1, ?_⟩; (try (dsimp only [Nat.reduceAdd, bC, bL]))) | (guard_target =~ RegOb _ _ _ 15 _ _ _ _ _; refine reg_hold tabOk mixed [0] [(0, true), (2, true), (3, true), (4, true), (5, true), (6, true), (7, true), (1, false), (8, true)] (by kernel_rfl) ?_) | (guard_target =~ extH _ _ _ ∧ _; refine ⟨by (repeat' ((try (conv => whnf)); first | exact True.intro | exact trivial | (refine ⟨rfl, ?_⟩))); (first | done | fail), ?_⟩) | (guard_target =~ CallOb _ 58 _ _ _ _; guard_hyp mk0 : 1 = 1; clear mk0; refine call_q (lkeep0_c S D) [(0, some 1), (1, some 0), (2, none)] cvLogMore5 rfT rfT rfT (fun v h1 n1 hp => ?_); obtain ⟨c0, hc0, rfl, rfl, rfl⟩ := hp; subst hc0; have mk1 : 1 = 1 := rfl; (try (dsimp only [Nat.reduceAdd, bC, bL]))) | (guard_target =~ LoopOb _ _ _ _ _ _ _ _; refine loop_rule tabOk mixed [(12, [(0, true), (1, true), (2, true), (3, true), (4, true), (5, true), (6, true), (7, true), (8, true), (9, true), (10, true), (11, true), (12, true), (13, true), (14, true), (15, true), (16, true), (17, true), (18, true), (19, true), (20, true), (21, true)]), (13, [(0, true), (1, true), (2, true), (3, true), (4, true), (5, true), (6, true), (7, true), (8, true), (9, true), (10, true), (11, true), (12, true), (13, true), (1014, false)])] 4 (fun j : Nat => [(0, ptr 0), (4, ptr 1)]) (fun j => [(0, diskI S1 D1), (1, .own 99 [ptr 0, mslice 2 j cp, .map (some 3)]), (2, .lst 105 3 cp (fs.flatMap frv)), (3, .mp [] [])]) (fun j => j) (fun j => j ≤ fs.length ∧ trimR fs = trimR (fs.take j)) fs.length ⟨Nat.le_refl _, by rw [List.take_length]⟩ ⟨[(0, some 0), (1, some 1), (2, some 112), (3, some 33)], Sub.q cvLogMore5 (by rfl) (by rfl)⟩ (fun j hj => ?_)) | (guard_target =~ ∃ (_ : Nat), _ ∧ _; first | refine ⟨j - 1, by omega, by omega, ?_⟩) | (obtain ⟨f, hf⟩ : ∃ f, fs[j - 1]? = some f := ⟨_, List.getElem?_eq_getElem omT⟩; refine onS_in (v := .bool f.2.2) (by show (fs.flatMap frv)[0 + (j - 1) * 3 + 2]? = _; rw [Nat.zero_add]; exact cell_fr hf (by decide) rfl) ?_) | (guard_target =~ CallOb _ 58 _ _ _ _; have htl : (fs.take j).length = j := (by rw [List.length_take]; omega); refine call_q (lkeep_c [] (fs.take j) cp S1 D1 omT omT j omT) [(0, some 1), (1, some 0), (2, some 2), (3, some 3)] cvLogMore5 rfT rfT rfT (fun v h1 n1 hp => ?_); obtain ⟨ck, hck, rfl, rfl, rfl⟩ := hp; subst hck; rw [show (fs.take j).take j = fs.take j by rw [List.take_take, Nat.min_self]]; (try (dsimp only [Nat.reduceAdd, bC, bL]))) | (guard_target =~ CallOb _ 17 _ _ _ _; guard_hyp mk1 : 1 = 1; clear mk1; refine call_q (size_k S D (up_ok hD omT) logN) [(0, some 0)] cvLogMore5 rfT rfT rfT (fun v h1 n1 hp => ?_); obtain ⟨sz, S, hsz, rfl, rfl, rfl⟩ := hp; (try (dsimp only [Nat.reduceAdd, bC, bL]))) | (guard_target =~ CallOb _ 59 _ _ _ _; obtain ⟨zz, hzz⟩ := Int.eq_ofNat_of_zero_le (show 0 ≤ sz by omega); have hz2 : sizeD D logN = (zz : Nat) := (by rw [← hsz, hzz]); refine call_q (lread_c S D hD omT zz hz2) [(0, some 1), (1, some 0), (2, some 32), (3, some 33)] cvLogMore5 rfT rfT rfT (fun v h1 n1 hp => ?_); obtain ⟨⟨⟨rt, er, fs⟩, D1, S1, cp⟩, ⟨hr, hcp⟩, rfl, rfl, rfl⟩ := hp; dsimp only at hr hcp; have hok1 := readL_okN zz 0 [] hD; have hfw := readL_few zz 0 (fs := []) (D := D); rw [← hr] at hok1 hfw; dsimp only [List.length_nil] at hok1 hfw; have hzb := sizeD_bound (up_ok hD omT) logN; (try (dsimp only [Nat.reduceAdd, bC, bL]))) | (guard_target =~ CallOb _ 61 _ _ _ _; refine call_q (drop_c S1 D1 (up_ok hok1 omT) logN) [(0, some 0)] cvLogMore5 rfT rfT rfT (fun v h1 n1 hp => ?_); obtain ⟨ed, D2, S2, hd, rfl, rfl, rfl⟩ := hp; (try (dsimp only [Nat.reduceAdd, bC, bL]))) | (guard_target =~ CallOb _ 17 _ _ _ _; refine call_q (size_k S1 D1 (up_ok hok1 omT) logN) [(0, some 0)] cvLogMore5 rfT rfT rfT (fun v h1 n1 hp => ?_); obtain ⟨sy, S1, hsy, rfl, rfl, rfl⟩ := hp; have hzb1 := sizeD_bound (up_ok hok1 omT) logN; rw [← hsy] at hzb1; (try (dsimp only [Nat.reduceAdd, bC, bL]))) | (guard_target =~ CallOb _ 62 _ _ _ _; refine call_q (cut_c S1 D1 (up_ok hok1 omT) logN (1 + ((j : Nat) : Int)) omT) [(0, some 0)] cvLogMore5 rfT rfT rfT (fun v h1 n1 hp => ?_); obtain ⟨ec, D3, S3, hd3, rfl, rfl, rfl⟩ := hp; (try (dsimp only [Nat.reduceAdd, bC, bL]))) | (guard_target =~ CallOb _ 60 _ _ _ _; (with_reducible refine call_inline tabOk mixed Tryz.call60 Tryz.func60 ?_ [] ?_ ?_); exact rfl; exact Nat.le_of_ble_eq_true rfl) | (with_reducible first | refine chk_in (Nat.ble_eq_true_of_le omT) ?_ | (refine ifB_in ?_ ?_ <;> intro hb <;> (try simp only [bN1, bN2, bN3, bN4, bN5, bN6, bN7, bN8, bN9, bN0] at hb) <;> (try (exfalso; omega))) | refine ⟨_, w64b _, ?_⟩ | refine ⟨_, w64 omT omT, ?_⟩ | refine ⟨_, wu64 omT omT, ?_⟩ | refine ⟨_, wu8 omT omT, ?_⟩ | refine ⟨_, w64 szT szT, ?_⟩ | refine ⟨_, rfl, ?_⟩ | refine ⟨rfl, ?_⟩) | intro cap | (with_reducible refine ⟨trivial, ?_⟩) | (guard_target =~ (planChk _ _ = true) ∧ _; refine ⟨by kernel_rfl, ?_⟩) | (guard_target =~ (_ ∧ _) ∧ _; refine ⟨by ((repeat (first | exact trivial | refine ⟨rfl, ?_⟩)); (first | done | fail)), ?_⟩) | refine ⟨by omega, ?_⟩ | refine ⟨szT, ?_⟩ | refine ⟨0, rfl, ?_⟩ | refine ⟨1, rfl, ?_⟩ | refine ⟨2, rfl, ?_⟩ | refine ⟨3, rfl, ?_⟩ | refine ⟨4, rfl, ?_⟩ | refine ⟨5, rfl, ?_⟩ | (refine cell_at1 (by assumption) ?_) | (refine cell_in1 omT (fun x hx => ?_)) | fail)) <;> (try (conv => whnf))
 all_goals first
  | (guard_hyp hb : sz < 0; (refine Ends.go ((.inl ⟨0, [], 0, S, D⟩ : LX ⊕ (Int × DM × (Nat → Prop)))) ?_ [(0, some 0), (10, some 1), (11, some 32), (12, some 33)] (Fit.q cvLogMore5 (by rfl) (by rfl))); exact ⟨(open_neg (hsz ▸ hb)).symm, Nat.le_refl _, rfl⟩)
  | (guard_hyp hb : ¬ er = 0; (refine Ends.go ((.inr (er, D1, S1) : LX ⊕ (Int × DM × (Nat → Prop)))) ?_ [(0, some 0)] (Fit.q cvLogMore5 (by rfl) (by rfl))); exact ⟨(open_err hz2 hr hb).symm, hb⟩)
  | (guard_hyp hb : ¬ ed = 0; (refine Ends.go ((.inr (ed, D2, S2) : LX ⊕ (Int × DM × (Nat → Prop)))) ?_ [(0, some 0)] (Fit.q cvLogMore5 (by rfl) (by rfl))); exact ⟨(open_drop hz2 hr ‹er = 0› ‹rt = false› hd).symm, hb⟩)
  | (guard_hyp hb : ed = 0; have hfs := open_fs hz2 hr ‹er = 0› ‹rt = false›; subst hfs; (refine Ends.go ((.inl ⟨0, [], cp, S2, D2⟩ : LX ⊕ (Int × DM × (Nat → Prop)))) ?_ [(0, some 0), (10, some 1), (11, some 112), (12, some 33)] (Fit.q cvLogMore5 (by rfl) (by rfl))); exact ⟨by dsimp only; rw [open_drop hz2 hr ‹er = 0› ‹rt = false› hd, hb], Nat.zero_le _, rfl⟩)
  | (guard_hyp hb : f.2.2 = false; (refine Again.go ((j - 1 : Nat)) ?_ (by (try dsimp only); omega) [(0, some 0), (1, some 1), (2, some 2), (3, some 3)] (Sub.q cvLogMore5 (by rfl) (by rfl))); exact ⟨by omega, trimR_go hj.1 hj.2 (by omega) hf hb⟩)
  | (have ht : trimR fs = fs.take j := trimR_end hj.2 (by first | exact .inr ⟨by omega, f, hf, ‹f.2.2 = true›⟩ | exact .inl (by omega)); first
   | (guard_hyp hb : ¬ ec = 0; (refine Ends.go ((.inr (ec, D3, S3) : LX ⊕ (Int × DM × (Nat → Prop)))) ?_ [(0, some 0)] (Fit.q cvLogMore5 (by rfl) (by rfl))); exact ⟨((open_cut hz2 hr ‹er = 0› ‹rt = true› hj.1 ht (by omega) hd3).1 hb).symm, hb⟩)
   | (guard_hyp hb : ec = 0; (refine Ends.go ((.inl ⟨j, fs.take j, ck, S3, D3⟩ : LX ⊕ (Int × DM × (Nat → Prop)))) ?_ [(0, some 0), (10, some 1), (11, some 34), (12, some 35)] (Fit.q cvLogMore5 (by rfl) (by rfl))); exact ⟨((open_cut hz2 hr ‹er = 0› ‹rt = true› hj.1 ht (by omega) hd3).2 hb).symm, by dsimp only; omega, htl.symm⟩)
   | ((refine Ends.go ((.inl ⟨j, fs.take j, ck, S1, D1⟩ : LX ⊕ (Int × DM × (Nat → Prop)))) ?_ [(0, some 0), (10, some 1), (11, some 34), (12, some 35)] (Fit.q cvLogMore5 (by rfl) (by rfl))); exact ⟨(open_keep hz2 hr ‹er = 0› ‹rt = true› hj.1 ht (by omega)).symm, by dsimp only; omega, htl.symm⟩))
  | trace_state
theorem lopen_c (S : Nat → Prop) (D : DM) {N : Int} (hD : D.OkN N) (hN : N ≤ 800000000) (h0 : (openL D).1.1 = 0) :
 CallOb Tryz.prog 15 [ptr 0] [(0, diskI S D)] 1 (fun v h m => ∃ x : LX × Int, (((0, x.1.fs), x.1.D) = openL D ∧ x.1.fs.length ≤ x.1.cap ∧ x.1.n = x.1.fs.length ∧ x.2 = 0) ∧ v = .tuple #[ptr 10, iv x.2] ∧ h = lgO x.1.n x.1.fs x.1.cap x.1.S x.1.D ∧ m = 800) :=
 (lopen_e S D hD hN).mono fun v h m ⟨x, hr, h1, h2, h3⟩ => by
  cases x with
  | inl x => exact ⟨(x, 0), ⟨hr.1, hr.2.1, hr.2.2, rfl⟩, h1, h2, h3⟩
  | inr x => exact absurd ((congrArg (fun a => a.1.1) hr.1).trans h0) hr.2
section
variable {fs : List Fr} {D D1 D2 : DM} {n : Int} {data : ByteArray} {commit : Bool} {e1 e2 : Int}
theorem addL_arg (h : n < 0 ∨ 4096 ≤ n ∨ data.size ≠ 232) : addL fs D n data commit = (1, fs, D) := by unfold addL; rw [if_pos h]
variable (h : ¬ (n < 0 ∨ 4096 ≤ n ∨ data.size ≠ 232)) (ht : (e1, D1) = if sizeD D logN < 0 then writeD D logN 0 topS else (0, D))
include h ht
theorem addL_top (h1 : ¬ e1 = 0) : addL fs D n data commit = (e1, fs, D1) := by
 unfold addL; rw [if_neg h]; dsimp only; rw [← ht, if_pos h1]
variable (h1 : e1 = 0)
include h1
theorem addL_close (h2 : ¬ closeE (kindL commit) n data = 0) : addL fs D n data commit = (closeE (kindL commit) n data, fs, D1) := by
 unfold addL; rw [if_neg h]; dsimp only; rw [← ht, if_neg (fun hh => hh h1), if_pos h2]
variable (h2 : closeE (kindL commit) n data = 0) (hw : (e2, D2) = writeD D1 logN (1 + fs.length) (closeS (kindL commit) n (sumL fs).toNat data))
include h2 hw
theorem addL_err (h3 : ¬ e2 = 0) : addL fs D n data commit = (e2, fs, D2) := by
 unfold addL; rw [if_neg h]; dsimp only; rw [← ht, if_neg (fun hh => hh h1), if_neg (fun hh => hh h2), ← hw, if_pos h3]
theorem addL_ok (h3 : e2 = 0) : addL fs D n data commit = (0, fs ++ [(n, sumS (closeS (kindL commit) n (sumL fs).toNat data), commit)], D2) := by
 unfold addL; rw [if_neg h]; dsimp only; rw [← ht, if_neg (fun hh => hh h1), if_neg (fun hh => hh h2), ← hw, if_neg (fun hh => hh h3)]
end
theorem sum_u (fs : List Fr) (h : ∀ f ∈ fs, U64 f.2.1) : U64 (sumL fs) := by
 unfold sumL
 cases hl : fs.getLast? with
 | none => exact sumS_u _
 | some f => exact h f (List.mem_of_getLast? hl)
theorem lastM_add (fs : List Fr) (f : Fr) : lastM (fs ++ [f]) = putI (lastM fs) f.1 ((fs.length : Nat) : Int) := lastM_snoc fs f
attribute [local irreducible] addL kindL
theorem cvLogMore6 {p : Prop} (h : p := by have nw := True.intro; (repeat' (first | exact True.intro | (with_reducible exact rfl) | (with_reducible exact AbsLe.refl) | (guard_target =~ @Eq Nat _ _; first | exact rfl | omega) | (guard_target =~ List.map _ _ = []; exact rfl) | (first | (guard_target =~ @Eq (List Value) _ _; exact rfl) | (guard_target =~ @Eq (List Value) _ _; exact (congrArg (List.map kI) (lastM_add fs (n, sx, commit))).symm) | (guard_target =~ @Eq (List Value) _ _; exact (congrArg (List.map kI) (lastM_add fs (n, sx, commit)))) | exact covL_of (congrArg (List.map vI) (lastM_add fs (n, sx, commit))).symm (flat_map (fun _ => rfl) _) | exact covL_of (congrArg (List.map vI) (lastM_add fs (n, sx, commit))) (flat_map (fun _ => rfl) _) | (guard_target =~ @Eq Nat _ _; dsimp only; exact (List.length_append).symm) | (guard_target =~ @Eq Nat _ _; dsimp only; rw [List.length_append]; rfl) | exact covL_of (app_flat rfl) (flat_bind (f := frv) (fun _ => rfl) _) | exact covL_of rfl (flat_bind (f := frv) (fun _ => rfl) _) | exact covL_of rfl (flat_map (fun _ => rfl) _) | first | exact covL_still rfl hvs | exact covL_still rfl (still_map (fun _ => rfl) _) | exact covL_still rfl (still_map ro_still _) | (apply covL_set <;> (try clear nw) <;> have nw := True.intro) | exact congrArg (Value.int _) (by (try dsimp only); omega)) | (exact congrArg (Value.int _) (by omega)) | (exact covL_flat (flat_map (fun _ => rfl) _)) | (exact covL_flat flat_nil) | (refine covP_all ?_; (try clear nw); have nw := True.intro) | (refine covL_each ?_; (try clear nw); have nw := True.intro) | (refine ⟨?_, ?_⟩ <;> (try clear nw) <;> have nw := True.intro) | (guard_hyp nw : True; ((conv => whnf) <;> clear nw)))); (first | done | fail)) : p := h
set_option maxRecDepth 100000 in
set_option maxHeartbeats 8000000 in
theorem ladd_c (fs : List Fr) (cap : Nat) (S : Nat → Prop) (D : DM) {N : Int} (hD : D.OkN N) (hN : N ≤ 900000000) (hc : fs.length ≤ cap) (hl : fs.length ≤ 100000) (hu : ∀ f ∈ fs, U64 f.2.1) (n : Int) (data : ByteArray) (commit : Bool) :
 CallOb Tryz.prog 27 [ptr 0, iv n, .string data, .bool commit] (lgH fs cap S D) 4 (fun v h m => ∃ x : LX × Int, ((x.2, x.1.fs, x.1.D) = addL fs D n data commit ∧ x.1.fs.length ≤ x.1.cap ∧ x.1.n = x.1.fs.length) ∧ v = iv x.2 ∧ h = lgM x.1.n x.1.fs x.1.cap x.1.S x.1.D ∧ m = 200) := by
 refine call_spec tabOk mixed Tryz.call27 Tryz.func27 rfl [(18, [(0, true), (1, true), (2, true), (3, true), (4, true), (5, true), (6, true), (7, true), (8, true), (9, true), (1010, false)]), (19, [(0, true), (1, true), (2, true), (3, true), (4, true), (5, true), (6, true), (8, true), (7, false), (9, true), (10, false), (1011, false), (12, true), (13, true), (1014, false)])] (fun x : LX × Int => (x.2, x.1.fs, x.1.D) = addL fs D n data commit ∧ x.1.fs.length ≤ x.1.cap ∧ x.1.n = x.1.fs.length) (fun x => iv x.2) (fun x => lgM x.1.n x.1.fs x.1.cap x.1.S x.1.D) (fun _ => 200) ?_ ?_
 · exact (Nat.le_of_ble_eq_true rfl)
 have hkt : commit = true → (6 : Int) = kindL commit := fun h => by rw [h]; unfold kindL; rfl
 have hkf : commit = false → (5 : Int) = kindL commit := fun h => by rw [h]; unfold kindL; rfl
 (repeat' ((try (conv => whnf)); first | (guard_target =~ ∃ (_ : Value), ∃ (_ : HP), ∃ (_ : HP), _; refine ⟨_, _, _, rnLogMore1, ?_⟩; (try (dsimp only [Nat.reduceAdd, bC, bL]))) | (guard_target =~ RegOb _ _ _ 6 _ _ _ _ _; refine reg_hold tabOk mixed [1] [(0, true), (1, true), (2, true), (3, true), (4, false), (1005, false), (6, true)] (by kernel_rfl) ?_) | (guard_target =~ RegOb _ _ _ 15 _ _ _ _ _; refine reg_hold tabOk mixed [1] [(0, true), (1, true), (2, true), (3, true), (4, true), (5, true), (6, true), (7, true), (8, true), (9, true), (10, true), (1011, false), (12, true)] (by kernel_rfl) ?_) | (guard_target =~ extH _ _ _ ∧ _; refine ⟨by (repeat' ((try (conv => whnf)); first | exact True.intro | exact trivial | (refine ⟨rfl, ?_⟩))); (first | done | fail), ?_⟩) | (guard_target =~ CallOb _ 17 _ _ _ _; refine call_q (size_k S D (up_ok hD omT) logN) [(0, some 1)] cvLogMore6 rfT rfT rfT (fun v h1 n1 hp => ?_); obtain ⟨sz, S, hsz, rfl, rfl, rfl⟩ := hp; (try (dsimp only [Nat.reduceAdd, bC, bL]))) | (guard_target =~ CallOb _ 72 _ _ _ _; (with_reducible refine call_pure Tryz.call72 (ltop_c) ?_ ?_ ?_); exact rfl; exact rfl) | (guard_target =~ CallOb _ 71 _ _ _ _; guard_hyp hb : sz < 0; refine call_q (write_c S D (up_ok hD omT) logN 0 topS (by decide)) [(0, some 1)] cvLogMore6 rfT rfT rfT (fun v h1 n1 hp => ?_); obtain ⟨e1, D1, S1, hw1, rfl, rfl, rfl⟩ := hp; have hk1 := write_okN hD logN 0 topS; rw [← hw1] at hk1; dsimp only at hk1; have ht1 : (e1, D1) = if sizeD D logN < 0 then writeD D logN 0 topS else (0, D) := (by rw [if_pos (hsz ▸ hb)]; exact hw1); (try (dsimp only [Nat.reduceAdd, bC, bL]))) | (guard_target =~ CallOb _ 74 _ _ _ _; (first | (guard_hyp ht1 : (e1, D1) = _; refine call_q (lsum_c (lastM fs) fs cap S1 D1 hc hl) [(0, some 0), (1, some 1), (2, some 2), (3, some 3)] cvLogMore6 rfT rfT rfT (fun v h1 n1 hp => ?_)) | (obtain ⟨e1, he1⟩ : ∃ e : Int, e = 0 := ⟨0, rfl⟩; have ht1 : (e1, D) = if sizeD D logN < 0 then writeD D logN 0 topS else (0, D) := (by rw [if_neg omT, he1]); refine call_q (lsum_c (lastM fs) fs cap S D hc hl) [(0, some 0), (1, some 1), (2, some 2), (3, some 3)] cvLogMore6 rfT rfT rfT (fun v h1 n1 hp => ?_))); obtain ⟨sl, hsl, rfl, rfl, rfl⟩ := hp; have hslu : U64 sl := (by rw [hsl]; exact sum_u fs hu); have hcl := fun w => close_any (kindL commit) n sl data w hslu; obtain ⟨es, hes⟩ : ∃ es, es = closeE (kindL commit) n data := ⟨_, rfl⟩; obtain ⟨ss, hss⟩ : ∃ ss, ss = closeS (kindL commit) n sl.toNat data := ⟨_, rfl⟩; rw [← hes, ← hss] at hcl; (first | rw [← hkt ‹commit = true›] at hcl | rw [← hkf ‹commit = false›] at hcl); obtain ⟨sx, hsx⟩ : ∃ sx, sx = sumS ss := ⟨_, rfl⟩; have hsm := fun w => sealSum_any ss w; rw [show ((sumAt (bytesOf ss) : Nat) : Int) = sx by rw [hsx]; unfold sumS; rfl] at hsm; (try (dsimp only [Nat.reduceAdd, bC, bL]))) | (guard_target =~ CallOb _ 73 _ _ _ _; (with_reducible refine call_pure Tryz.call73 (hcl) ?_ ?_ ?_); exact rfl; exact rfl) | (guard_target =~ CallOb _ 75 _ _ _ _; (with_reducible refine call_pure Tryz.call75 (hsm) ?_ ?_ ?_); exact rfl; exact rfl) | (guard_target =~ CallOb _ 71 _ _ _ _; (first | (guard_hyp hw1 : (e1, D1) = _; refine call_q (write_c S1 D1 (up_ok hk1 omT) logN (1 + ((fs.length : Nat) : Int)) ss omT) [(0, some 1)] cvLogMore6 rfT rfT rfT (fun v h1 n1 hp => ?_)) | (refine call_q (write_c S D (up_ok hD omT) logN (1 + ((fs.length : Nat) : Int)) ss omT) [(0, some 1)] cvLogMore6 rfT rfT rfT (fun v h1 n1 hp => ?_))); obtain ⟨e2, D2, S2, hw2, rfl, rfl, rfl⟩ := hp; rw [hss, hsl] at hw2; (try (dsimp only [Nat.reduceAdd, bC, bL]))) | (guard_target =~ ∃ ks' vs', PutOb _ _ _ _ ks' vs' ∧ _; refine ⟨_, _, put_last, ?_⟩) | (refine ⟨frs_len _, ?_⟩) | (with_reducible first | refine chk_in (Nat.ble_eq_true_of_le omT) ?_ | (refine ifB_in ?_ ?_ <;> intro hb <;> (try simp only [bN1, bN2, bN3, bN4, bN5, bN6, bN7, bN8, bN9, bN0] at hb) <;> (try (exfalso; omega))) | refine ⟨_, w64b _, ?_⟩ | refine ⟨_, w64 omT omT, ?_⟩ | refine ⟨_, wu64 omT omT, ?_⟩ | refine ⟨_, wu8 omT omT, ?_⟩ | refine ⟨_, w64 szT szT, ?_⟩ | refine ⟨_, rfl, ?_⟩ | refine ⟨rfl, ?_⟩) | intro cap | (with_reducible refine ⟨trivial, ?_⟩) | (guard_target =~ (planChk _ _ = true) ∧ _; refine ⟨by kernel_rfl, ?_⟩) | (guard_target =~ (_ ∧ _) ∧ _; refine ⟨by ((repeat (first | exact trivial | refine ⟨rfl, ?_⟩)); (first | done | fail)), ?_⟩) | refine ⟨by omega, ?_⟩ | refine ⟨szT, ?_⟩ | refine ⟨0, rfl, ?_⟩ | refine ⟨1, rfl, ?_⟩ | refine ⟨2, rfl, ?_⟩ | refine ⟨3, rfl, ?_⟩ | refine ⟨4, rfl, ?_⟩ | refine ⟨5, rfl, ?_⟩ | (refine cell_at1 (by assumption) ?_) | (refine cell_in1 omT (fun x hx => ?_)) | fail)) <;> (try (conv => whnf))
 all_goals first
  | ((refine Ends.go (((⟨fs.length, fs, cap, S, D⟩ : LX), 1)) ?_ [(0, some 0), (1, some 1), (30, some 2), (31, some 3)] (Fit.q cvLogMore6 (by rfl) (by rfl))); exact ⟨(addL_arg (by omega)).symm, hc, rfl⟩)
  | (guard_hyp hb : ¬ e1 = 0; (refine Ends.go (((⟨fs.length, fs, cap, S1, D1⟩ : LX), e1)) ?_ [(0, some 0), (1, some 1), (30, some 2), (31, some 3)] (Fit.q cvLogMore6 (by rfl) (by rfl))); exact ⟨(addL_top (by omega) ht1 hb).symm, hc, rfl⟩)
  | (guard_hyp hb : ¬ es = 0; first
   | ((refine Ends.go (((⟨fs.length, fs, cap, S1, D1⟩ : LX), es)) ?_ [(0, some 0), (1, some 1), (30, some 2), (31, some 3)] (Fit.q cvLogMore6 (by rfl) (by rfl))); exact ⟨by dsimp only; rw [addL_close (by omega) ht1 ‹e1 = 0› (by rw [← hes]; exact hb), hes], hc, rfl⟩)
   | ((refine Ends.go (((⟨fs.length, fs, cap, S, D⟩ : LX), es)) ?_ [(0, some 0), (1, some 1), (30, some 2), (31, some 3)] (Fit.q cvLogMore6 (by rfl) (by rfl))); exact ⟨by dsimp only; rw [addL_close (by omega) ht1 ‹e1 = 0› (by rw [← hes]; exact hb), hes], hc, rfl⟩))
  | (guard_hyp hb : ¬ e2 = 0; (refine Ends.go (((⟨fs.length, fs, cap, S2, D2⟩ : LX), e2)) ?_ [(0, some 0), (1, some 1), (30, some 2), (31, some 3)] (Fit.q cvLogMore6 (by rfl) (by rfl))); exact ⟨(addL_err (by omega) ht1 ‹e1 = 0› (by rw [← hes]; exact ‹es = 0›) hw2 hb).symm, hc, rfl⟩)
  | (guard_hyp hb : e2 = 0; rename_i cpn; (refine Ends.go (((⟨fs.length + 1, fs ++ [(n, sx, commit)], cpn, S2, D2⟩ : LX), 0)) ?_ [(0, some 0), (1, some 1), (30, some _), (31, some 3)] (Fit.q cvLogMore6 (by rfl) (by rfl))); exact ⟨by dsimp only; rw [addL_ok (by omega) ht1 ‹e1 = 0› (by rw [← hes]; exact ‹es = 0›) hw2 hb, hsx, hss, hsl], by dsimp only; rw [List.length_append]; exact cap, by dsimp only; rw [List.length_append, List.length_singleton]⟩)
  | trace_state
end Go.Proofs.YtcojbjakopkfbaaGreat
namespace Go.Proofs.YtcojbjakopkfbaaGreat
open Go.RowKit
set_option linter.unusedSimpArgs false
set_option linter.unusedVariables false
theorem look_bound (fs : List Fr) (n : Int) : ∀ i, lookI (lastM fs) n = some i → 0 ≤ i ∧ i < (fs.length : Int) := by
 refine snoc_ind (P := fun fs => ∀ i, lookI (lastM fs) n = some i → 0 ≤ i ∧ i < (fs.length : Int)) (fun i h => ?_) (fun l f ih i h => ?_) fs
 · rw [lastM_nil] at h; cases h
 · rw [lastM_snoc, look_put] at h
   rw [List.length_append, List.length_singleton]
   split at h
   · cases h; omega
   · have := ih i h; omega
theorem read_256 {D D' : DM} (h : D.Ok) {s z : ByteArray} {i e : Int} (hr : ((z, e), D') = readD D s i) (h0 : e = 0) : z.size = 256 := by
 unfold readD at hr
 dsimp only at hr
 simp only [Prod.mk.injEq] at hr
 obtain ⟨hr, _⟩ := hr
 split at hr
 · rename_i hf
   simp only [Prod.mk.injEq] at hr
   exact absurd (hr.2.symm.trans h0) hf
 · cases hx : findF D.fs s with
   | none =>
    rw [hx] at hr
    unfold readF at hr
    dsimp only [Option.getD_none] at hr
    split at hr
    · simp only [Prod.mk.injEq] at hr; omega
    · have e0 : fl0.now[i.toNat]? = none := by simp [fl0]
      rw [e0] at hr
      simp only [readC, Prod.mk.injEq] at hr
      omega
   | some x =>
    rw [hx] at hr
    dsimp only [Option.getD_some] at hr
    have hX := find_ok h.fs hx
    unfold readF at hr
    split at hr
    · simp only [Prod.mk.injEq] at hr; omega
    · cases hc : x.now[i.toNat]? with
      | none => rw [hc] at hr; simp only [readC, Prod.mk.injEq] at hr; omega
      | some c =>
       rw [hc] at hr
       cases c with
       | none => simp only [readC, Prod.mk.injEq] at hr; omega
       | some d =>
        simp only [readC, Prod.mk.injEq] at hr
        rw [hr.1]
        exact hX.now _ (List.mem_of_getElem? hc)
section
variable {fs : List Fr} {D D1 : DM} {n i e : Int} {z : ByteArray}
theorem getL_none (h : lookI (lastM fs) n = none) : getL fs D n = ((⟨#[]⟩, false, 0), D) := by unfold getL; rw [h]
theorem getL_err (h : lookI (lastM fs) n = some i) (hr : ((z, e), D1) = readD D logN (1 + i)) (h0 : ¬ e = 0) : getL fs D n = ((⟨#[]⟩, false, e), D1) := by unfold getL; rw [h]; dsimp only; rw [← hr]; dsimp only; rw [if_pos h0]
theorem getL_ok (h : lookI (lastM fs) n = some i) (hr : ((z, e), D1) = readD D logN (1 + i)) (h0 : e = 0) : getL fs D n = ((z.extract 0 232, true, 0), D1) := by unfold getL; rw [h]; dsimp only; rw [← hr]; dsimp only; rw [if_neg (fun hh => hh h0)]
theorem lback_arg {k : Int} (h : k < 0 ∨ (fs.length : Int) < k) : lbackL fs D k = (1, fs, D) := by unfold lbackL; rw [if_pos h]
theorem lback_eq {k : Int} (h : k = (fs.length : Int)) : lbackL fs D k = (0, fs, D) := by unfold lbackL; rw [if_neg (by omega), if_pos h]
theorem lback_cut {k : Int} (h : ¬ (k < 0 ∨ (fs.length : Int) < k)) (h2 : ¬ k = (fs.length : Int)) (hc : (e, D1) = cutD D logN (1 + k)) : (e = 0 → lbackL fs D k = (0, fs.take k.toNat, D1)) ∧ (¬ e = 0 → lbackL fs D k = (e, fs, D1)) := by
 unfold lbackL
 rw [if_neg h, if_neg h2]
 dsimp only
 rw [← hc]
 exact ⟨fun h => by rw [if_pos h], fun h => by rw [if_neg h]⟩
theorem lend_no (h : sizeD D logN < 0) : lendL fs D = (0, [], D) := by unfold lendL; rw [if_pos h]
theorem lend_drop (h : ¬ sizeD D logN < 0) (hd : (e, D1) = dropD D logN) : (e = 0 → lendL fs D = (0, [], D1)) ∧ (¬ e = 0 → lendL fs D = (e, fs, D1)) := by
 unfold lendL
 rw [if_neg h]
 dsimp only
 rw [← hd]
 exact ⟨fun h => by rw [if_neg (fun hh => hh h)], fun h => by rw [if_pos h]⟩
end
attribute [local irreducible] numOf fixedL bytesOf strOf strEq strLt sfrom closeS closeE writeD sizeD syncD cutD dropD readD topS sumS sumL rightR lastM readL openL trimR addL kindL lsyncL getL lbackL lendL
theorem cvLogMore7 {p : Prop} (h : p := by have nw := True.intro; (repeat' (first | exact True.intro | (with_reducible exact rfl) | (with_reducible exact AbsLe.refl) | (guard_target =~ @Eq Nat _ _; first | exact rfl | omega) | (guard_target =~ List.map _ _ = []; exact rfl) | (first | (guard_target =~ @Eq (List Value) _ _; exact rfl) | (guard_target =~ @Eq (List Value) _ _; first | exact (congrArg (List.map kI) lastM_nil) | exact (congrArg (List.map kI) lastM_nil).symm) | exact covL_of (congrArg (List.map vI) lastM_nil).symm (flat_map (fun _ => rfl) _) | exact covL_of (congrArg (List.map vI) lastM_nil) (flat_map (fun _ => rfl) _) | exact covL_of rfl (flat_bind (f := frv) (fun _ => rfl) _) | exact covL_of rfl (flat_map (fun _ => rfl) _) | first | exact covL_still rfl hvs | exact covL_still rfl (still_map (fun _ => rfl) _) | exact covL_still rfl (still_map ro_still _) | (apply covL_set <;> (try clear nw) <;> have nw := True.intro) | exact congrArg (Value.int _) (by (try dsimp only); omega)) | (exact congrArg (Value.int _) (by omega)) | (exact covL_flat (flat_map (fun _ => rfl) _)) | (exact covL_flat flat_nil) | (refine covP_all ?_; (try clear nw); have nw := True.intro) | (refine covL_each ?_; (try clear nw); have nw := True.intro) | (refine ⟨?_, ?_⟩ <;> (try clear nw) <;> have nw := True.intro) | (guard_hyp nw : True; ((conv => whnf) <;> clear nw)))); (first | done | fail)) : p := h
set_option maxRecDepth 100000 in
theorem lsync_c (M : List (Int × Int)) (fs : List Fr) (cap : Nat) (S : Nat → Prop) (D : DM) {N : Int} (hD : D.OkN N) (hN : N ≤ 900000000) :
 CallOb Tryz.prog 30 [ptr 0] (lgX M fs cap S D) 4 (fun v h m => ∃ x : Int × DM × (Nat → Prop), (x.1, x.2.1) = lsyncL D ∧ v = iv x.1 ∧ h = lgX M fs cap x.2.2 x.2.1 ∧ m = 60) := by
 refine call_spec tabOk mixed Tryz.call30 Tryz.func30 rfl [] (fun x : Int × DM × (Nat → Prop) => (x.1, x.2.1) = lsyncL D) (fun x => iv x.1) (fun x => lgX M fs cap x.2.2 x.2.1) (fun _ => 60) ?_ ?_
 · exact (Nat.le_of_ble_eq_true rfl)
 have E1 : sizeD D logN < 0 → (0, D) = lsyncL D := fun h => by unfold lsyncL; rw [if_pos h]
 have E2 : ¬ sizeD D logN < 0 → syncD D logN = lsyncL D := fun h => by unfold lsyncL; rw [if_neg h]
 (repeat' ((try (conv => whnf)); first | (guard_target =~ ∃ (_ : Value), ∃ (_ : HP), ∃ (_ : HP), _; refine ⟨_, _, _, rnLogMore1, ?_⟩; (try (dsimp only [Nat.reduceAdd, bC, bL]))) | (guard_target =~ CallOb _ 17 _ _ _ _; refine call_q (size_k S D (up_ok hD omT) logN) [(0, some 1)] cvLogMore7 rfT rfT rfT (fun v h1 n1 hp => ?_); obtain ⟨sz, S, hsz, rfl, rfl, rfl⟩ := hp; (try (dsimp only [Nat.reduceAdd, bC, bL]))) | (guard_target =~ CallOb _ 76 _ _ _ _; refine call_q (sync_c S D (up_ok hD omT) logN) [(0, some 1)] cvLogMore7 rfT rfT rfT (fun v h1 n1 hp => ?_); obtain ⟨ey, D1, S1, hy, rfl, rfl, rfl⟩ := hp; (try (dsimp only [Nat.reduceAdd, bC, bL]))) | (with_reducible first | refine chk_in (Nat.ble_eq_true_of_le omT) ?_ | (refine ifB_in ?_ ?_ <;> intro hb <;> (try simp only [bN1, bN2, bN3, bN4, bN5, bN6, bN7, bN8, bN9, bN0] at hb) <;> (try (exfalso; omega))) | refine ⟨_, w64b _, ?_⟩ | refine ⟨_, w64 omT omT, ?_⟩ | refine ⟨_, wu64 omT omT, ?_⟩ | refine ⟨_, wu8 omT omT, ?_⟩ | refine ⟨_, w64 szT szT, ?_⟩ | refine ⟨_, rfl, ?_⟩ | refine ⟨rfl, ?_⟩) | intro cap | (with_reducible refine ⟨trivial, ?_⟩) | (guard_target =~ (planChk _ _ = true) ∧ _; refine ⟨by kernel_rfl, ?_⟩) | (guard_target =~ (_ ∧ _) ∧ _; refine ⟨by ((repeat (first | exact trivial | refine ⟨rfl, ?_⟩)); (first | done | fail)), ?_⟩) | refine ⟨by omega, ?_⟩ | refine ⟨szT, ?_⟩ | refine ⟨0, rfl, ?_⟩ | refine ⟨1, rfl, ?_⟩ | refine ⟨2, rfl, ?_⟩ | refine ⟨3, rfl, ?_⟩ | refine ⟨4, rfl, ?_⟩ | refine ⟨5, rfl, ?_⟩ | (refine cell_at1 (by assumption) ?_) | (refine cell_in1 omT (fun x hx => ?_)) | fail)) <;> (try (conv => whnf))
 all_goals first
  | (guard_hyp hb : sz < 0; (refine Ends.go ((0, D, S)) ?_ [(0, some 0), (1, some 1), (2, some 2), (3, some 3)] (Fit.q cvLogMore7 (by rfl) (by rfl))); exact E1 (hsz ▸ hb))
  | ((refine Ends.go ((ey, D1, S1)) ?_ [(0, some 0), (1, some 1), (2, some 2), (3, some 3)] (Fit.q cvLogMore7 (by rfl) (by rfl))); exact hy.trans (E2 (by omega)))
  | trace_state
set_option maxRecDepth 100000 in
theorem lget_c (fs : List Fr) (cap : Nat) (S : Nat → Prop) (D : DM) {N : Int} (hD : D.OkN N) (hN : N ≤ 900000000) (hl : fs.length ≤ 100000) (n : Int) :
 CallOb Tryz.prog 24 [ptr 0, iv n] (lgH fs cap S D) 4 (fun v h m => ∃ x : (ByteArray × Bool × Int) × DM × (Nat → Prop), (x.1, x.2.1) = getL fs D n ∧ v = .tuple #[.string x.1.1, .bool x.1.2.1, iv x.1.2.2] ∧ h = lgH fs cap x.2.2 x.2.1 ∧ m = 40) := by
 refine call_spec tabOk mixed Tryz.call24 Tryz.func24 rfl [] (fun x : (ByteArray × Bool × Int) × DM × (Nat → Prop) => (x.1, x.2.1) = getL fs D n) (fun x => .tuple #[.string x.1.1, .bool x.1.2.1, iv x.1.2.2]) (fun x => lgH fs cap x.2.2 x.2.1) (fun _ => 40) ?_ ?_
 · exact (Nat.le_of_ble_eq_true rfl)
 have hlb := look_bound fs n
 (repeat' ((try (conv => whnf)); first | (guard_target =~ ∃ (_ : Value), ∃ (_ : HP), ∃ (_ : HP), _; refine ⟨_, _, _, rnLogMore1, ?_⟩; (try (dsimp only [Nat.reduceAdd, bC, bL]))) | (guard_target =~ LookOb _ _ _ _ _; refine look_last (fun i hi => ?_) (fun hi => ?_) <;> try have hib := hlb i hi) | (guard_target =~ CallOb _ 70 _ _ _ _; refine call_q (read_c S D (up_ok hD omT) logN (1 + i) omT) [(0, some 1)] cvLogMore7 rfT rfT rfT (fun v h1 n1 hp => ?_); obtain ⟨⟨sr, er⟩, D1, S1, hr, rfl, rfl, rfl⟩ := hp; (try (dsimp only [Nat.reduceAdd, bC, bL]))) | (guard_target =~ ∃ (_ : Nat), _ ∧ _; have h256 := read_256 (up_ok hD omT) hr ‹er = 0›; refine ⟨232, by omega, by omega, ?_⟩) | (with_reducible first | refine chk_in (Nat.ble_eq_true_of_le omT) ?_ | (refine ifB_in ?_ ?_ <;> intro hb <;> (try simp only [bN1, bN2, bN3, bN4, bN5, bN6, bN7, bN8, bN9, bN0] at hb) <;> (try (exfalso; omega))) | refine ⟨_, w64b _, ?_⟩ | refine ⟨_, w64 omT omT, ?_⟩ | refine ⟨_, wu64 omT omT, ?_⟩ | refine ⟨_, wu8 omT omT, ?_⟩ | refine ⟨_, w64 szT szT, ?_⟩ | refine ⟨_, rfl, ?_⟩ | refine ⟨rfl, ?_⟩) | intro cap | (with_reducible refine ⟨trivial, ?_⟩) | (guard_target =~ (planChk _ _ = true) ∧ _; refine ⟨by kernel_rfl, ?_⟩) | (guard_target =~ (_ ∧ _) ∧ _; refine ⟨by ((repeat (first | exact trivial | refine ⟨rfl, ?_⟩)); (first | done | fail)), ?_⟩) | refine ⟨by omega, ?_⟩ | refine ⟨szT, ?_⟩ | refine ⟨0, rfl, ?_⟩ | refine ⟨1, rfl, ?_⟩ | refine ⟨2, rfl, ?_⟩ | refine ⟨3, rfl, ?_⟩ | refine ⟨4, rfl, ?_⟩ | refine ⟨5, rfl, ?_⟩ | (refine cell_at1 (by assumption) ?_) | (refine cell_in1 omT (fun x hx => ?_)) | fail)) <;> (try (conv => whnf))
 all_goals first
  | (guard_hyp hi : lookI (lastM fs) n = none; (refine Ends.go (((⟨#[]⟩, false, 0), D, S)) ?_ [(0, some 0), (1, some 1), (2, some 2), (3, some 3)] (Fit.q cvLogMore7 (by rfl) (by rfl))); exact (getL_none hi).symm)
  | (guard_hyp hb : ¬ er = 0; (refine Ends.go (((⟨#[]⟩, false, er), D1, S1)) ?_ [(0, some 0), (1, some 1), (2, some 2), (3, some 3)] (Fit.q cvLogMore7 (by rfl) (by rfl))); exact (getL_err hi hr hb).symm)
  | ((refine Ends.go (((sr.extract 0 232, true, 0), D1, S1)) ?_ [(0, some 0), (1, some 1), (2, some 2), (3, some 3)] (Fit.q cvLogMore7 (by rfl) (by rfl))); exact (getL_ok hi hr ‹er = 0›).symm)
  | trace_state
set_option maxRecDepth 100000 in
theorem lend_c (fs : List Fr) (cap : Nat) (S : Nat → Prop) (D : DM) {N : Int} (hD : D.OkN N) (hN : N ≤ 900000000) (hc : fs.length ≤ cap) (hl : fs.length ≤ 100000) :
 CallOb Tryz.prog 35 [ptr 0] (lgH fs cap S D) 4 (fun v h m => ∃ x : LX × Int, ((x.2, x.1.fs, x.1.D) = lendL fs D ∧ x.1.fs.length ≤ x.1.cap ∧ x.1.n = x.1.fs.length) ∧ v = iv x.2 ∧ h = lgM x.1.n x.1.fs x.1.cap x.1.S x.1.D ∧ m = 200) := by
 refine call_spec tabOk mixed Tryz.call35 Tryz.func35 rfl [] (fun x : LX × Int => (x.2, x.1.fs, x.1.D) = lendL fs D ∧ x.1.fs.length ≤ x.1.cap ∧ x.1.n = x.1.fs.length) (fun x => iv x.2) (fun x => lgM x.1.n x.1.fs x.1.cap x.1.S x.1.D) (fun _ => 200) ?_ ?_
 · exact (Nat.le_of_ble_eq_true rfl)
 (repeat' ((try (conv => whnf)); first | (guard_target =~ ∃ (_ : Value), ∃ (_ : HP), ∃ (_ : HP), _; refine ⟨_, _, _, rnLogMore1, ?_⟩; (try (dsimp only [Nat.reduceAdd, bC, bL]))) | (guard_target =~ CallOb _ 17 _ _ _ _; refine call_q (size_k S D (up_ok hD omT) logN) [(0, some 1)] cvLogMore7 rfT rfT rfT (fun v h1 n1 hp => ?_); obtain ⟨sz, S, hsz, rfl, rfl, rfl⟩ := hp; (try (dsimp only [Nat.reduceAdd, bC, bL]))) | (guard_target =~ CallOb _ 61 _ _ _ _; refine call_q (drop_c S D (up_ok hD omT) logN) [(0, some 1)] cvLogMore7 rfT rfT rfT (fun v h1 n1 hp => ?_); obtain ⟨ed, D1, S1, hd1, rfl, rfl, rfl⟩ := hp; (try (dsimp only [Nat.reduceAdd, bC, bL]))) | (guard_target =~ CallOb _ 58 _ _ _ _; first | (guard_hyp hd1 : (ed, D1) = _; refine call_q (lkeep_c (lastM fs) fs cap S1 D1 hc hl 0 (Nat.zero_le _)) [(0, some 0), (1, some 1), (2, some 2), (3, some 3)] cvLogMore7 rfT rfT rfT (fun v h1 n1 hp => ?_); obtain ⟨ck, hck, rfl, rfl, rfl⟩ := hp; subst hck; (try (dsimp only [Nat.reduceAdd, bC, bL]))) | (refine call_q (lkeep_c (lastM fs) fs cap S D hc hl 0 (Nat.zero_le _)) [(0, some 0), (1, some 1), (2, some 2), (3, some 3)] cvLogMore7 rfT rfT rfT (fun v h1 n1 hp => ?_); obtain ⟨ck, hck, rfl, rfl, rfl⟩ := hp; subst hck; (try (dsimp only [Nat.reduceAdd, bC, bL])))) | (with_reducible first | refine chk_in (Nat.ble_eq_true_of_le omT) ?_ | (refine ifB_in ?_ ?_ <;> intro hb <;> (try simp only [bN1, bN2, bN3, bN4, bN5, bN6, bN7, bN8, bN9, bN0] at hb) <;> (try (exfalso; omega))) | refine ⟨_, w64b _, ?_⟩ | refine ⟨_, w64 omT omT, ?_⟩ | refine ⟨_, wu64 omT omT, ?_⟩ | refine ⟨_, wu8 omT omT, ?_⟩ | refine ⟨_, w64 szT szT, ?_⟩ | refine ⟨_, rfl, ?_⟩ | refine ⟨rfl, ?_⟩) | intro cap | (with_reducible refine ⟨trivial, ?_⟩) | (guard_target =~ (planChk _ _ = true) ∧ _; refine ⟨by kernel_rfl, ?_⟩) | (guard_target =~ (_ ∧ _) ∧ _; refine ⟨by ((repeat (first | exact trivial | refine ⟨rfl, ?_⟩)); (first | done | fail)), ?_⟩) | refine ⟨by omega, ?_⟩ | refine ⟨szT, ?_⟩ | refine ⟨0, rfl, ?_⟩ | refine ⟨1, rfl, ?_⟩ | refine ⟨2, rfl, ?_⟩ | refine ⟨3, rfl, ?_⟩ | refine ⟨4, rfl, ?_⟩ | refine ⟨5, rfl, ?_⟩ | (refine cell_at1 (by assumption) ?_) | (refine cell_in1 omT (fun x hx => ?_)) | fail)) <;> (try (conv => whnf))
 all_goals first
  | (guard_hyp hb : ¬ ed = 0; (refine Ends.go (((⟨fs.length, fs, cap, S1, D1⟩ : LX), ed)) ?_ [(0, some 0), (1, some 1), (30, some 2), (31, some 3)] (Fit.q cvLogMore7 (by rfl) (by rfl))); exact ⟨((lend_drop (by omega) hd1).2 hb).symm, hc, rfl⟩)
  | (guard_hyp hb : ed = 0; (refine Ends.go (((⟨0, fs.take 0, ck, S1, D1⟩ : LX), 0)) ?_ [(0, some 0), (1, some 1), (30, some _), (31, some _)] (Fit.q cvLogMore7 (by rfl) (by rfl))); exact ⟨by dsimp only; rw [List.take_zero]; exact ((lend_drop (by omega) hd1).1 hb).symm, by rw [List.take_zero]; exact Nat.zero_le _, by rw [List.take_zero]; rfl⟩)
  | ((refine Ends.go (((⟨0, fs.take 0, ck, S, D⟩ : LX), 0)) ?_ [(0, some 0), (1, some 1), (30, some _), (31, some _)] (Fit.q cvLogMore7 (by rfl) (by rfl))); exact ⟨by dsimp only; rw [List.take_zero]; exact (lend_no (by omega)).symm, by rw [List.take_zero]; exact Nat.zero_le _, by rw [List.take_zero]; rfl⟩)
  | trace_state
set_option maxRecDepth 100000 in
theorem lback_c (fs : List Fr) (cap : Nat) (S : Nat → Prop) (D : DM) {N : Int} (hD : D.OkN N) (hN : N ≤ 900000000) (hc : fs.length ≤ cap) (hl : fs.length ≤ 100000) (k : Int) :
 CallOb Tryz.prog 34 [ptr 0, iv k] (lgH fs cap S D) 4 (fun v h m => ∃ x : LX × Int, ((x.2, x.1.fs, x.1.D) = lbackL fs D k ∧ x.1.fs.length ≤ x.1.cap ∧ x.1.n = x.1.fs.length) ∧ v = iv x.2 ∧ h = lgM x.1.n x.1.fs x.1.cap x.1.S x.1.D ∧ m = 200) := by
 refine call_spec tabOk mixed Tryz.call34 Tryz.func34 rfl [] (fun x : LX × Int => (x.2, x.1.fs, x.1.D) = lbackL fs D k ∧ x.1.fs.length ≤ x.1.cap ∧ x.1.n = x.1.fs.length) (fun x => iv x.2) (fun x => lgM x.1.n x.1.fs x.1.cap x.1.S x.1.D) (fun _ => 200) ?_ ?_
 · exact (Nat.le_of_ble_eq_true rfl)
 (repeat' ((try (conv => whnf)); first | (guard_target =~ ∃ (_ : Value), ∃ (_ : HP), ∃ (_ : HP), _; refine ⟨_, _, _, rnLogMore1, ?_⟩; (try (dsimp only [Nat.reduceAdd, bC, bL]))) | (guard_target =~ CallOb _ 62 _ _ _ _; refine call_q (cut_c S D (up_ok hD omT) logN (1 + k) omT) [(0, some 1)] cvLogMore7 rfT rfT rfT (fun v h1 n1 hp => ?_); obtain ⟨ec, D1, S1, hd1, rfl, rfl, rfl⟩ := hp; (try (dsimp only [Nat.reduceAdd, bC, bL]))) | (guard_target =~ CallOb _ 58 _ _ _ _; obtain ⟨kn, rfl⟩ := Int.eq_ofNat_of_zero_le (show 0 ≤ k by omega); refine call_q (lkeep_c (lastM fs) fs cap S1 D1 hc hl kn omT) [(0, some 0), (1, some 1), (2, some 2), (3, some 3)] cvLogMore7 rfT rfT rfT (fun v h1 n1 hp => ?_); obtain ⟨ck, hck, rfl, rfl, rfl⟩ := hp; subst hck; (try (dsimp only [Nat.reduceAdd, bC, bL]))) | (with_reducible first | refine chk_in (Nat.ble_eq_true_of_le omT) ?_ | (refine ifB_in ?_ ?_ <;> intro hb <;> (try simp only [bN1, bN2, bN3, bN4, bN5, bN6, bN7, bN8, bN9, bN0] at hb) <;> (try (exfalso; omega))) | refine ⟨_, w64b _, ?_⟩ | refine ⟨_, w64 omT omT, ?_⟩ | refine ⟨_, wu64 omT omT, ?_⟩ | refine ⟨_, wu8 omT omT, ?_⟩ | refine ⟨_, w64 szT szT, ?_⟩ | refine ⟨_, rfl, ?_⟩ | refine ⟨rfl, ?_⟩) | intro cap | (with_reducible refine ⟨trivial, ?_⟩) | (guard_target =~ (planChk _ _ = true) ∧ _; refine ⟨by kernel_rfl, ?_⟩) | (guard_target =~ (_ ∧ _) ∧ _; refine ⟨by ((repeat (first | exact trivial | refine ⟨rfl, ?_⟩)); (first | done | fail)), ?_⟩) | refine ⟨by omega, ?_⟩ | refine ⟨szT, ?_⟩ | refine ⟨0, rfl, ?_⟩ | refine ⟨1, rfl, ?_⟩ | refine ⟨2, rfl, ?_⟩ | refine ⟨3, rfl, ?_⟩ | refine ⟨4, rfl, ?_⟩ | refine ⟨5, rfl, ?_⟩ | (refine cell_at1 (by assumption) ?_) | (refine cell_in1 omT (fun x hx => ?_)) | fail)) <;> (try (conv => whnf))
 all_goals first
  | (guard_hyp hb : ¬ ec = 0; (refine Ends.go (((⟨fs.length, fs, cap, S1, D1⟩ : LX), ec)) ?_ [(0, some 0), (1, some 1), (30, some 2), (31, some 3)] (Fit.q cvLogMore7 (by rfl) (by rfl))); exact ⟨((lback_cut (fs := fs) (by omega) (by omega) hd1).2 hb).symm, hc, rfl⟩)
  | (have hec : ec = 0 := ‹ec = 0›; (refine Ends.go (((⟨kn, fs.take kn, ck, S1, D1⟩ : LX), ec)) ?_ [(0, some 0), (1, some 1), (30, some _), (31, some _)] (Fit.q cvLogMore7 (by rfl) (by rfl))); exact ⟨by dsimp only; rw [(lback_cut (fs := fs) (by omega) (by omega) hd1).1 hec, hec, Int.toNat_natCast], by dsimp only; rw [List.length_take]; omega, by dsimp only; rw [List.length_take]; omega⟩)
  | (guard_hyp hb : k = (fs.length : Nat); (refine Ends.go (((⟨fs.length, fs, cap, S, D⟩ : LX), 0)) ?_ [(0, some 0), (1, some 1), (30, some 2), (31, some 3)] (Fit.q cvLogMore7 (by rfl) (by rfl))); exact ⟨(lback_eq (fs := fs) hb).symm, hc, rfl⟩)
  | ((refine Ends.go (((⟨fs.length, fs, cap, S, D⟩ : LX), 1)) ?_ [(0, some 0), (1, some 1), (30, some 2), (31, some 3)] (Fit.q cvLogMore7 (by rfl) (by rfl))); exact ⟨(lback_arg (fs := fs) (by omega)).symm, hc, rfl⟩)
  | trace_state
end Go.Proofs.YtcojbjakopkfbaaGreat
