/- The disk: its numbers; as plain data; over memory: where its parts stand, opened for a walk, closed behind it. -/
import Derived.Test.YtelolcagncgfpaaGreatEngW
import Derived.Test.YtelolcagncgfpaaGreatBase
import Derived.Sort.Walk0
import Derived.Test.YtelolcagncgfpaaGreatTab
namespace Go.Proofs.YtelolcagncgfpaaGreat
open Go.RowKit
set_option linter.unusedSimpArgs false
set_option linter.unusedVariables false
abbrev iv (n : Int) : Value := .int .i64 n
abbrev ptr (i : Nat) : Value := .pointer (some ⟨i, 0, none⟩)
structure Dk where
 room : Int
 down : Bool
 ops : Int
 life : Int
 at' : Int
 kind : Int
 more : Int
abbrev dkv (f : Nat) (k : Dk) : List Value := [.map (some f), iv k.room, .bool k.down, iv k.ops, iv k.life, iv k.at', iv k.kind, iv k.more]
def Dk.Fit (k : Dk) : Prop := 0 ≤ k.room ∧ k.room ≤ 16384 ∧ 0 ≤ k.ops ∧ k.ops < 4611686018427387904 ∧ 0 ≤ k.life ∧ k.life < 4611686018427387904 ∧ 0 ≤ k.at' ∧ k.at' ≤ 9223372036854775807 ∧ -9223372036854775808 ≤ k.kind ∧ k.kind ≤ 9223372036854775807 ∧ -9223372036854775808 ≤ k.more ∧ k.more ≤ 9223372036854775807
def goodName (s : ByteArray) : Bool := (!strEq s ⟨#[]⟩) && decide (s.size ≤ 16)
def begS (k : Dk) (s : ByteArray) (r : Bool) : Int × Dk :=
 if goodName s = false ∨ r = false then (1, k)
 else if k.down = true then (10, k)
 else if k.at' = 0 then (0, { k with ops := k.ops + 1 })
 else if 1 < k.at' then (0, { k with ops := k.ops + 1, at' := k.at' - 1 })
 else if k.kind = 2 then (10, { k with ops := k.ops + 1, down := true, life := k.life + 1, at' := 0 })
 else if 0 < k.more then (11, { k with ops := k.ops + 1, more := k.more - 1 })
 else (11, { k with ops := k.ops + 1, at' := 0 })
end Go.Proofs.YtelolcagncgfpaaGreat
namespace Go.Proofs.YtelolcagncgfpaaGreat
open Go.RowKit
set_option linter.unusedSimpArgs false
set_option linter.unusedVariables false
theorem strLt_iff (a b : ByteArray) : strLt a b = true ↔ bytesOf a < bytesOf b := by unfold strLt; rw [bytesLess_eq, decide_eq_true_eq]
theorem strLt_irrefl (a : ByteArray) : ¬ strLt a a = true := by rw [strLt_iff]; exact List.lt_irrefl _
theorem strLt_trans {a b c : ByteArray} (h : strLt a b = true) (h' : strLt b c = true) : strLt a c = true := by rw [strLt_iff] at *; exact List.lt_trans h h'
theorem strLt_tri {a b : ByteArray} (h : a ≠ b) : strLt a b = true ∨ strLt b a = true := by
 rw [strLt_iff, strLt_iff]
 rcases Classical.em (bytesOf a < bytesOf b) with h1 | h1
 · exact .inl h1
 · refine .inr (Classical.byContradiction fun h2 => h (bytesOf_inj.1 ?_))
   exact List.le_antisymm (List.not_lt.1 h2) (List.not_lt.1 h1)
abbrev Cv := Option ByteArray
structure Fl where
 now : List Cv
 safe : List (Option Cv)
 wait : List Bool
 sure : Bool
abbrev Fs := List (ByteArray × Fl)
structure DM where
 k : Dk
 fs : Fs
def fl0 : Fl := ⟨[], [], [], false⟩
noncomputable def findF (fs : Fs) (s : ByteArray) : Option Fl := by classical exact (fs.find? fun p => decide (p.1 = s)).map fun p => p.2
noncomputable def putF : Fs → ByteArray → Fl → Fs
 | [], s, x => [(s, x)]
 | (t, y) :: r, s, x => by classical exact if t = s then (s, x) :: r else if strLt s t = true then (s, x) :: (t, y) :: r else (t, y) :: putF r s x
noncomputable def delF (fs : Fs) (s : ByteArray) : Fs := by classical exact fs.filter fun p => decide (p.1 ≠ s)
def total (fs : Fs) : Nat := (fs.map fun p => p.2.now.length).sum
def zero256 : ByteArray := strOf (List.replicate 256 0)
def readC : Option Cv → ByteArray × Int
 | none => (⟨#[]⟩, 14)
 | some none => (⟨#[]⟩, 13)
 | some (some d) => (d, 0)
def readF (x : Fl) (i : Int) : ByteArray × Int := if i < 0 then (⟨#[]⟩, 14) else readC x.now[i.toNat]?
def writeF (x : Fl) (i : Nat) (d : ByteArray) : Fl :=
 if i = x.now.length then { x with now := x.now ++ [some d], safe := x.safe ++ [none], wait := x.wait ++ [true] }
 else { x with now := x.now.set i (some d), wait := x.wait.set i true }
def syncF (x : Fl) : Fl := ⟨x.now, x.now.map some, List.replicate x.now.length false, true⟩
def cutF (x : Fl) (n : Nat) : Fl := ⟨x.now.take n, x.safe.take n, x.wait.take n, true⟩
noncomputable def foundD (D : DM) (s : ByteArray) (r : Bool) : Int × DM :=
 let b := begS D.k s r
 (if b.1 ≠ 0 then b.1 else if (findF D.fs s).isSome then 0 else 14, ⟨b.2, D.fs⟩)
noncomputable def readD (D : DM) (s : ByteArray) (i : Int) : (ByteArray × Int) × DM :=
 let f := foundD D s true
 (if f.1 ≠ 0 then (⟨#[]⟩, f.1) else readF ((findF D.fs s).getD fl0) i, f.2)
noncomputable def writeD (D : DM) (s : ByteArray) (i : Int) (d : ByteArray) : Int × DM :=
 let f := foundD D s (decide (0 ≤ i) && decide (d.size = 256))
 if f.1 ≠ 0 ∧ (f.1 ≠ 14 ∨ 0 < i) then f
 else
  let x := (findF D.fs s).getD fl0
  if (x.now.length : Int) < i then (14, f.2)
  else if (f.1 = 14 ∧ 8 ≤ D.fs.length) ∨ (i = x.now.length ∧ f.2.k.room ≤ total D.fs) then (12, f.2)
  else (0, ⟨f.2.k, putF D.fs s (writeF x i.toNat d)⟩)
noncomputable def syncD (D : DM) (s : ByteArray) : Int × DM :=
 let f := foundD D s true
 if f.1 ≠ 0 then f else (0, ⟨f.2.k, putF D.fs s (syncF ((findF D.fs s).getD fl0))⟩)
noncomputable def cutD (D : DM) (s : ByteArray) (n : Int) : Int × DM :=
 let f := foundD D s (decide (0 ≤ n))
 let x := (findF D.fs s).getD fl0
 if f.1 ≠ 0 then f else if (x.now.length : Int) < n then (14, f.2) else (0, ⟨f.2.k, putF D.fs s (cutF x n.toNat)⟩)
noncomputable def dropD (D : DM) (s : ByteArray) : Int × DM :=
 let f := foundD D s true
 if f.1 ≠ 0 then f else (0, ⟨f.2.k, delF D.fs s⟩)
noncomputable def sizeD (D : DM) (s : ByteArray) : Int := match findF D.fs s with | none => -1 | some x => x.now.length
def clampR (n : Int) : Int := min (max n 0) 16384
def roomD (D : DM) (n : Int) : DM := ⟨{ D.k with room := clampR n }, D.fs⟩
def armD (D : DM) (at' kind more : Int) : DM := ⟨{ D.k with at' := if kind = 1 ∨ kind = 2 then max at' 0 else 0, kind := kind, more := more }, D.fs⟩
def offD (D : DM) : DM := ⟨if D.k.down = true then { D.k with at' := 0 } else { D.k with life := D.k.life + 1, down := true, at' := 0 }, D.fs⟩
def cellB : Cv → List UInt8
 | none => List.replicate 256 0
 | some d => bytesOf d
noncomputable def bytesD (D : DM) (s : ByteArray) : ByteArray := strOf (((findF D.fs s).getD fl0).now.flatMap cellB)
def fateAt (l : List Int) (u : Nat) : Int := if l = [] then 0 else l.getD (u % l.length) 0
def fateC (f : Int) (n : Cv) (s : Option Cv) : Option Cv := if f = 1 then some n else if f = 2 then some none else s
def fates (l : List Int) : List Cv → List (Option Cv) → List Bool → Nat → List (Option Cv) × Nat
 | n :: ns, s :: ss, true :: ws, u => let r := fates l ns ss ws (u + 1); (fateC (fateAt l u) n s :: r.1, r.2)
 | _ :: ns, s :: ss, false :: ws, u => let r := fates l ns ss ws u; (s :: r.1, r.2)
 | _, ss, _, u => (ss, u)
def trimC : List (Option Cv) → List (Option Cv)
 | [] => []
 | c :: r => match trimC r, c with | [], none => [] | t, c => c :: t
def fillC (c : Option Cv) : Cv := c.getD (some zero256)
def fatedF (l : List Int) (x : Fl) (u : Nat) : Fl × Nat :=
 let r := fates l x.now x.safe x.wait u
 let s := (trimC r.1).map fillC
 (⟨s, s.map some, List.replicate s.length false, x.sure⟩, r.2)
def onF (l : List Int) : Fs → Nat → Fs
 | [], _ => []
 | (s, x) :: r, u =>
  let y := fatedF l x u
  let t := onF l r y.2
  if y.1.now = [] ∧ x.sure = false then t else (s, { y.1 with sure := true }) :: t
def onD (D : DM) (l : List Int) : DM := if D.k.down = true then ⟨{ D.k with down := false }, onF l D.fs 0⟩ else D
def chunks : Nat → List UInt8 → List Cv
 | 0, _ => []
 | n + 1, l => match l with
  | [] => []
  | l => some (strOf (l.take 256 ++ List.replicate (256 - (l.take 256).length) 0)) :: chunks n (l.drop 256)
noncomputable def loadD (D : DM) (s d : ByteArray) : Int × DM :=
 if goodName s = false ∨ 1048576 < d.size then (1, D)
 else if findF D.fs s = none ∧ 8 ≤ D.fs.length then (12, D)
 else
  let c := chunks d.size (bytesOf d)
  (0, ⟨D.k, putF D.fs s ⟨c, c.map some, List.replicate c.length false, true⟩⟩)
def newD (room : Int) : DM := ⟨⟨clampR room, false, 0, 0, 0, 0, 0⟩, []⟩
def OkC : Cv → Prop | none => True | some d => d.size = 256
structure Fl.Ok (x : Fl) : Prop where
 safe : x.safe.length = x.now.length
 wait : x.wait.length = x.now.length
 len : x.now.length ≤ 16384
 now : ∀ c ∈ x.now, OkC c
 cells : ∀ c, some c ∈ x.safe → OkC c
def Sorted (fs : Fs) : Prop := fs.Pairwise fun p q => strLt p.1 q.1 = true
structure Fs.Ok (fs : Fs) : Prop where
 sorted : Sorted fs
 few : fs.length ≤ 8
 names : ∀ p ∈ fs, goodName p.1 = true
 files : ∀ p ∈ fs, p.2.Ok
structure DM.Ok (D : DM) : Prop where
 k : D.k.Fit
 fs : D.fs.Ok
end Go.Proofs.YtelolcagncgfpaaGreat
namespace Go.Proofs.YtelolcagncgfpaaGreat
open Go.RowKit
set_option linter.unusedSimpArgs false
set_option linter.unusedVariables false
def All2 {α β : Type} (R : α → β → Prop) : List α → List β → Prop
 | [], [] => True
 | a :: l, b :: r => R a b ∧ All2 R l r
 | _, _ => False
section
variable {α β : Type} {R R' : α → β → Prop}
theorem All2.len : ∀ {l : List α} {r : List β}, All2 R l r → l.length = r.length
 | [], [], _ => rfl
 | _ :: _, _ :: _, h => by simp [All2.len h.2]
theorem All2.mono (h : ∀ a b, R a b → R' a b) : ∀ {l : List α} {r : List β}, All2 R l r → All2 R' l r
 | [], [], _ => trivial
 | _ :: _, _ :: _, x => ⟨h _ _ x.1, All2.mono h x.2⟩
theorem All2.app : ∀ {l l' : List α} {r r' : List β}, All2 R l r → All2 R l' r' → All2 R (l ++ l') (r ++ r')
 | [], _, [], _, _, h => h
 | _ :: _, _, _ :: _, _, h, h' => ⟨h.1, All2.app h.2 h'⟩
theorem All2.set : ∀ {l : List α} {r : List β} (i : Nat) {a : α} {b : β}, All2 R l r → R a b → All2 R (l.set i a) (r.set i b)
 | [], [], _, _, _, _, _ => by simp [All2]
 | _ :: _, _ :: _, 0, _, _, h, x => ⟨x, h.2⟩
 | _ :: _, _ :: _, i + 1, _, _, h, x => ⟨h.1, All2.set i h.2 x⟩
theorem All2.take : ∀ {l : List α} {r : List β} (n : Nat), All2 R l r → All2 R (l.take n) (r.take n)
 | [], [], _, _ => by simp [All2]
 | _ :: _, _ :: _, 0, _ => by simp [All2]
 | _ :: _, _ :: _, n + 1, h => ⟨h.1, All2.take n h.2⟩
theorem All2.get : ∀ {l : List α} {r : List β} {i : Nat} {a : α}, All2 R l r → l[i]? = some a → ∃ b, r[i]? = some b ∧ R a b
 | [], [], _, _, _, e => by simp at e
 | _ :: _, b :: _, 0, _, h, e => by simp at e; subst e; exact ⟨b, rfl, h.1⟩
 | _ :: l, _ :: r, i + 1, a, h, e => All2.get (l := l) (r := r) (i := i) h.2 (by simpa using e)
theorem All2.get' : ∀ {l : List α} {r : List β} {i : Nat} {b : β}, All2 R l r → r[i]? = some b → ∃ a, l[i]? = some a ∧ R a b
 | [], [], _, _, _, e => by simp at e
 | a :: _, _ :: _, 0, _, h, e => by simp at e; subst e; exact ⟨a, rfl, h.1⟩
 | _ :: l, _ :: r, i + 1, b, h, e => All2.get' (l := l) (r := r) (i := i) h.2 (by simpa using e)
end
structure Rl where
 g : Nat
 s : Nat
 k : Nat
def Rl.bl (r : Rl) : List Nat := if r.s = nilS then [] else [r.g]
noncomputable def Rl.val (r : Rl) (n : Nat) : Value := if r.s = nilS then .slice (weird r.g) 0 0 else .slice (some ⟨r.g, 0, none⟩) n r.k
def RowC (w : World) (r : Rl) (ty : TypeId) (l : List Value) : Prop :=
 (r.s = nilS ∧ r.k = 0 ∧ l = []) ∨ (r.s = 0 ∧ r.k ≤ maxLen ∧ ∃ cur, w.heap[r.g]? = some (.cells cur ty (0, 0)) ∧ cur.size = r.k * 1 ∧ cur.toList.take l.length = l ∧ l.length ≤ cur.size)
theorem RowC.same {w w' : World} {r : Rl} {ty : TypeId} {l : List Value} (h : ∀ b ∈ r.bl, w'.heap[b]? = w.heap[b]?) : RowC w r ty l → RowC w' r ty l
 | .inl x => .inl x
 | .inr ⟨a, b, cur, c, d⟩ => .inr ⟨a, b, cur, (h r.g (by unfold Rl.bl; rw [if_neg (by rw [a]; exact zero_ne_nilS)]; simp)).trans c, d⟩
theorem RowC.item {F : Nat → Prop} {B : Nat} {m : BM} {w : World} {r : Rl} {ty : TypeId} {cs l : List Value} (h : RowC w r ty l) (hl : LR (V1 m) cs l) (hf : ∀ b ∈ r.bl, B ≤ b ∨ F b) : ItmOk F B m w r.g r.s (.lst ty 1 r.k cs) := by
 rcases h with ⟨a, b, rfl⟩ | ⟨a, b, cur, c, d, e, f⟩
 · refine .inl ⟨a, b, ?_⟩
   cases cs with
   | nil => rfl
   | cons _ _ => exact hl.elim
 · exact .inr ⟨a, hf r.g (by unfold Rl.bl; rw [if_neg (by rw [a]; exact zero_ne_nilS)]; simp), b, l, cur, hl, c, d, e, f⟩
theorem RowC.len {w : World} {r : Rl} {ty : TypeId} {l : List Value} : RowC w r ty l → l.length ≤ r.k
 | .inl ⟨_, _, h⟩ => by rw [h]; exact Nat.zero_le _
 | .inr ⟨_, _, cur, _, h1, _, h2⟩ => by omega
theorem RowC.of {F : Nat → Prop} {B : Nat} {m : BM} {w : World} {g s k : Nat} {ty : TypeId} {cs : List Value} (h : ItmOk F B m w g s (.lst ty 1 k cs)) : ∃ l, LR (V1 m) cs l ∧ RowC w ⟨g, s, k⟩ ty l := by
 rcases h with ⟨a, b, rfl⟩ | ⟨a, _, b, l, cur, hl, c, d, e, f⟩
 · exact ⟨[], trivial, .inl ⟨a, b, rfl⟩⟩
 · exact ⟨l, hl, .inr ⟨a, b, cur, c, d, e, f⟩⟩
theorem Rl.blk {r : Rl} {b g s : Nat} {ty : TypeId} {size cap : Nat} {cs : List Value} (hg : g = r.g) (hs : s = r.s) : (Itm.lst ty size cap cs).blk g s b ↔ b ∈ r.bl := by
 subst hg hs
 unfold Rl.bl
 by_cases h : r.s = nilS
 · rw [if_pos h]; exact ⟨fun x => absurd h x.1, fun x => by cases x⟩
 · rw [if_neg h]; simp only [List.mem_singleton]; exact ⟨fun x => x.2, fun x => ⟨h, x⟩⟩
theorem RowC.slc {m : BM} {w : World} {r : Rl} {ty : TypeId} {l : List Value} (h : RowC w r ty l) {i : Nat} (hm : m i r.g r.s) {n : Nat} (hn : n = l.length) : V0 m (mslice i n r.k) (r.val n) := by
 subst hn
 refine ⟨r.g, r.s, hm, ?_⟩
 rcases h with ⟨a, b, rfl⟩ | ⟨a, _⟩
 · exact .inl ⟨a, rfl, b, by unfold Rl.val; rw [if_pos a]⟩
 · exact .inr ⟨by rw [a]; exact zero_ne_nilS, by unfold Rl.val; rw [if_neg (by rw [a]; exact zero_ne_nilS), a, sh_zero]⟩
theorem slc_val {m : BM} (hf : m.Fn) {i n k : Nat} {c : Value} (h : V0 m (mslice i n k) c) {g s : Nat} (hm : m i g s) (hz : s = 0 ∨ s = nilS) : c = (⟨g, s, k⟩ : Rl).val n := by
 obtain ⟨g', s', hm', h⟩ := h
 obtain ⟨rfl, rfl⟩ := hf _ _ _ _ _ hm hm'
 unfold Rl.val
 rcases h with ⟨a, rfl, rfl, rfl⟩ | ⟨a, rfl⟩
 · rw [if_pos a]
 · rw [if_neg a]
   rcases hz with rfl | hz
   · rw [sh_zero]
   · exact absurd hz a
theorem lst_mark {F : Nat → Prop} {B : Nat} {m : BM} {w : World} {g s k size : Nat} {ty : TypeId} {cs : List Value} (h : ItmOk F B m w g s (.lst ty size k cs)) : s = 0 ∨ s = nilS := by
 rcases h with ⟨a, _⟩ | ⟨a, _⟩
 · exact .inr a
 · exact .inl a
abbrev cp (p : Nat) : Value := .pointer (some ⟨p, 0, none⟩)
def co : Option Nat → Value | none => .pointer none | some p => cp p
def ro : Option Nat → Value | none => .pointer none | some p => rp p
theorem rp_cp {m : BM} {p : Nat} {c : Value} : V1 m (rp p) c ↔ c = cp p := by
 constructor
 · rintro ⟨b, hb, rfl⟩
   rw [A0.rig1.1 hb]
 · rintro rfl
   exact ⟨_, A0.rig1.2 rfl, rfl⟩
theorem ro_co {m : BM} {p : Option Nat} {c : Value} : V1 m (ro p) c ↔ c = co p := by
 cases p with
 | none => exact V1.flat rfl
 | some p => exact rp_cp
theorem rps_cps {m : BM} : ∀ {l : List Nat} {x : List Value}, LR (V1 m) (l.map fun p => rp p) x ↔ x = l.map cp
 | [], [] => by simp [LR]
 | [], _ :: _ => by simp [LR]
 | _ :: _, [] => by simp [LR]
 | p :: l, c :: x => by
  have := rps_cps (m := m) (l := l) (x := x)
  simp only [List.map_cons, LR, this, rp_cp, List.cons.injEq]
theorem ros_cos {m : BM} : ∀ {l : List (Option Nat)} {x : List Value}, LR (V1 m) (l.map ro) x ↔ x = l.map co
 | [], [] => by simp [LR]
 | [], _ :: _ => by simp [LR]
 | _ :: _, [] => by simp [LR]
 | p :: l, c :: x => by
  have := ros_cos (m := m) (l := l) (x := x)
  simp only [List.map_cons, LR, this, ro_co, List.cons.injEq]
theorem flats {m : BM} {α : Type} {f : α → Value} (h : ∀ a, flat1 (f a) = true) : ∀ {l : List α} {x : List Value}, LR (V1 m) (l.map f) x ↔ x = l.map f
 | [], [] => by simp [LR]
 | [], _ :: _ => by simp [LR]
 | _ :: _, [] => by simp [LR]
 | p :: l, c :: x => by
  have := flats (m := m) h (l := l) (x := x)
  simp only [List.map_cons, LR, this, V1.flat (h p), List.cons.injEq]
abbrev cellv : Cv → List Value
 | none => [.string ⟨#[]⟩, .bool true]
 | some d => [.string d, .bool false]
abbrev CM := List (Nat × Cv)
structure LF where
 g : Nat
 a : Rl
 b : Rl
 c : Rl
 pn : List Nat
 ps : List (Option Nat)
def LF.own (L : LF) : List Nat := L.g :: (L.a.bl ++ L.b.bl ++ L.c.bl)
def SafeC (C : CM) : Option Nat → Option Cv → Prop
 | none, none => True
 | some p, some c => (p, c) ∈ C
 | _, _ => False
structure FileAt (w : World) (C : CM) (L : LF) (X : Fl) : Prop where
 blk : Blk w L.g 69 #[L.a.val L.pn.length, L.b.val L.ps.length, L.c.val X.wait.length, .bool X.sure]
 r1 : RowC w L.a 70 (L.pn.map cp)
 r2 : RowC w L.b 70 (L.ps.map co)
 r3 : RowC w L.c 4 (X.wait.map .bool)
 c1 : All2 (fun p c => (p, c) ∈ C) L.pn X.now
 c2 : All2 (SafeC C) L.ps X.safe
theorem FileAt.same {w w' : World} {C : CM} {L : LF} {X : Fl} (h : ∀ b ∈ L.own, w'.heap[b]? = w.heap[b]?) (H : FileAt w C L X) : FileAt w' C L X :=
 ⟨(h L.g (by unfold LF.own; simp)).trans H.blk, H.r1.same fun b hb => h b (by unfold LF.own; simp [hb]), H.r2.same fun b hb => h b (by unfold LF.own; simp [hb]), H.r3.same fun b hb => h b (by unfold LF.own; simp [hb]), H.c1, H.c2⟩
theorem FileAt.more {w : World} {C C' : CM} (h : ∀ x, x ∈ C → x ∈ C') {L : LF} {X : Fl} (H : FileAt w C L X) : FileAt w C' L X :=
 ⟨H.blk, H.r1, H.r2, H.r3, H.c1.mono fun _ _ x => h _ x, H.c2.mono fun p c x => by
  cases p <;> cases c <;> first | exact x | exact h _ x⟩
abbrev EL := List (ByteArray × LF × Fl)
def owns (E : EL) : List Nat := E.flatMap fun e => e.2.1.own
def CellsAt (C : CM) (w : World) : Prop := ∀ x ∈ C, Blk w x.1 73 (cellv x.2).toArray
def SR (E : EL) (C : CM) (b : Nat) : Prop := b ∈ owns E ∨ ∃ x ∈ C, x.1 = b
structure RestAt (E : EL) (C : CM) (w : World) : Prop where
 nd : (owns E).Nodup
 off : ∀ x ∈ C, x.1 ∉ owns E
 files : ∀ e ∈ E, FileAt w C e.2.1 e.2.2
 cells : CellsAt C w
theorem RestAt.stab (E : EL) (C : CM) : Stab (SR E C) (RestAt E C) := fun w w' _ h H =>
 ⟨H.nd, H.off, fun e he => (H.files e he).same fun b hb => h b (.inl (List.mem_flatMap.2 ⟨e, he, hb⟩)), fun x hx => (h x.1 (.inr ⟨x, hx, rfl⟩)).trans (H.cells x hx)⟩
abbrev restI (E : EL) (C : CM) : Itm := .abs true (SR E C) (fun _ => RestAt E C)
abbrev dkc (M : Nat) (k : Dk) : List Value := dkv M k
structure DiskAt (S : Nat → Prop) (D : DM) (g : Nat) (w : World) : Prop where
 ex : ∃ (M : Nat) (E : EL) (C : CM) (A : Array MapEntry) (clk : Nat), Blk w g 58 (dkv M D.k).toArray ∧ (w.heap[M]? = some (.map A clk) ∧ MapKept.Stamped A clk) ∧ A.toList.map (fun e => e.key) = E.map (fun e => .string e.1) ∧ A.toList.map (fun e => e.val) = E.map (fun e => cp e.2.1.g) ∧
  RestAt E C w ∧ g ≠ M ∧ ¬ SR E C g ∧ ¬ SR E C M ∧ (E.map fun e => (e.1, e.2.2)).Perm D.fs ∧ S g ∧ S M ∧ (∀ b, SR E C b → S b)
theorem DiskAt.stab (S : Nat → Prop) (D : DM) (g : Nat) : Stab S (DiskAt S D g) := fun w w' hs h ⟨M, E, C, A, clk, h1, h2, h3, h4, h5, h6, h7, h8, h9, s1, s2, s3⟩ =>
 ⟨M, E, C, A, clk, (h g s1).trans h1, ⟨(h M s2).trans h2.1, h2.2⟩, h3, h4, RestAt.stab E C w w' hs (fun b hb => h b (s3 b hb)) h5, h6, h7, h8, h9, s1, s2, s3⟩
abbrev diskI (S : Nat → Prop) (D : DM) : Itm := .abs true S (DiskAt S D)
abbrev names (E : EL) : List Value := E.map fun e => .string e.1
abbrev spots (E : EL) : List Value := E.map fun e => rp e.2.1.g
theorem spots_still (E : EL) : ∀ v ∈ spots E, still1 v = true := still_map (fun _ => rfl) _
theorem spots_cps {m : BM} {E : EL} {x : List Value} : LR (V1 m) (spots E) x ↔ x = E.map (fun e => cp e.2.1.g) := by
 have := rps_cps (m := m) (l := E.map fun e => e.2.1.g) (x := x)
 simp only [List.map_map] at this
 exact this
theorem open_disk {F : Nat → Prop} {B : Nat} {w0 : World} {m : BM} {h : HP} {n : Nat} {w : World} (H : HRel F B w0 m h n w) {i : Nat} {S : Nat → Prop} {D : DM} (e : lkH h i = some (diskI S D)) {g : Nat} (hg : m i g 0) :
 ∃ (E : EL) (C : CM) (m' : BM), m.le m' ∧ (E.map fun e => (e.1, e.2.2)).Perm D.fs ∧ HRel F B w0 m' ((n + 1, restI E C) :: (n, .mp (names E) (spots E)) :: upH h i (.own 58 (dkv n D.k))) (n + 2) w := by
 obtain ⟨hroot, hlt, hfen, _, ⟨M, E, C, A, clk, h1, h2, h3, h4, h5, h6, h7, h8, h9, s1, s2, s3⟩⟩ := H.at e hg
 have fen := hfen rfl
 have A1 := (H.name M 0).openAt e (g := g) (.inl hg) (.own 58 (dkv n D.k)) rfl s1
  ⟨rfl, fen g s1, dkv M D.k, ⟨(V1.of0 rfl).2 ⟨_, A0.in (.inr ⟨rfl, rfl, rfl⟩) zero_ne_nilS, rfl⟩, (V1.flat rfl).2 rfl, (V1.flat rfl).2 rfl, (V1.flat rfl).2 rfl, (V1.flat rfl).2 rfl, (V1.flat rfl).2 rfl, (V1.flat rfl).2 rfl, (V1.flat rfl).2 rfl, trivial⟩, h1⟩
 have A2 := A1.give (k := n) (g := M) (s := 0) (.inr ⟨rfl, rfl, rfl⟩) (lkH_up_none e (H.none (Nat.le_refl _))) (.mp (names E) (spots E)) ⟨rfl, fen M s2, A, clk, h2, h3, by rw [h4]; exact spots_cps.2 rfl⟩ (by
  rintro b ⟨_, rfl⟩ (hb | hb)
  · exact hb s2
  · exact h6 hb.symm)
 have A3 := A2.add 0 nilS (restI E C) ⟨.inl ⟨rfl, rfl⟩, fun b hb => hlt b (s3 b hb), fun _ b hb => fen b (s3 b hb), RestAt.stab E C, h5⟩ (by
  intro b hb hU
  have hb : SR E C b := hb
  rcases hU with (hb' | rfl) | ⟨_, rfl⟩
  · exact hb' (s3 b hb)
  · exact h7 hb
  · exact h8 hb)
 exact ⟨E, C, _, fun j q s x => .inl (.inl x), h9, A3.H⟩
theorem lkH_cons {i j : Nat} {it : Itm} {h : HP} (hj : i ≠ j) : lkH ((i, it) :: h) j = lkH h j := by
 conv => lhs; unfold lkH
 rw [beq_no hj]; rfl
theorem RestAt.perm {E E' : EL} {C : CM} {w : World} (hp : E.Perm E') (H : RestAt E C w) : RestAt E' C w :=
 have hf : (owns E).Perm (owns E') := hp.flatMap_right _
 ⟨hf.nodup_iff.1 H.nd, fun x hx hb => H.off x hx (hf.mem_iff.2 hb), fun e he => H.files e (hp.mem_iff.2 he), H.cells⟩
theorem SR.perm {E E' : EL} {C : CM} (hp : E.Perm E') {b : Nat} : SR E C b ↔ SR E' C b :=
 have hf : (owns E).Perm (owns E') := hp.flatMap_right _
 or_congr hf.mem_iff Iff.rfl
section
variable {F : Nat → Prop} {B : Nat} {w0 : World} {m : BM} {h : HP} {n : Nat} {w : World} (H : HRel F B w0 m h n w)
include H
theorem freeze {q r : Nat} {c : Cv} {E : EL} {C : CM} (eq : lkH h q = some (.own 73 (cellv c))) (er : lkH h r = some (restI E C)) (hqr : q ≠ r) :
 ∃ g, m q g 0 ∧ HRel F B w0 m ((r, restI E ((g, c) :: C)) :: rmHs [q, r] h) n w := by
 obtain ⟨g, hg, _, hfen, l, hl, hb⟩ := H.place eq
 obtain ⟨gr, sr, hgr, hroot, hlt, hfr, _, hR⟩ := H.dom r _ er
 have hl' : l = cellv c := LR.eq_of (fun v hv x hx => (V1.flat (by cases c <;> (simp only [cellv, List.mem_cons, List.not_mem_nil, or_false] at hv; rcases hv with rfl | rfl <;> rfl)) : _ ↔ _).1 hx) hl
 subst hl'
 have hno : ¬ SR E C g := fun hs => H.sep q _ r _ g 0 gr sr g eq rfl er hqr hg hgr ⟨zero_ne_nilS, rfl⟩ hs
 refine ⟨g, hg, H.closeAt [q, r] (i := r) (by simp) hgr (SR E ((g, c) :: C)) (fun _ => RestAt E ((g, c) :: C)) ?_ ?_ (RestAt.stab E _) ?_⟩
 · rintro b (hb | ⟨x, hx, rfl⟩)
   · exact ⟨r, by simp, _, gr, sr, er, rfl, hgr, .inl hb⟩
   · cases hx with
     | head => exact ⟨q, by simp, _, g, 0, eq, rfl, hg, zero_ne_nilS, rfl⟩
     | tail _ hx => exact ⟨r, by simp, _, gr, sr, er, rfl, hgr, .inr ⟨x, hx, rfl⟩⟩
 · exact hroot
 · refine ⟨hR.nd, fun x hx => ?_, fun e he => (hR.files e he).more fun x hx => List.mem_cons_of_mem _ hx, fun x hx => ?_⟩
   · cases hx with
     | head => exact fun hb => hno (.inl hb)
     | tail _ hx => exact hR.off x hx
   · cases hx with
     | head => exact hb
     | tail _ hx => exact hR.cells x hx
theorem close_file {f a b c r la lb lc ka kb kc : Nat} {sure : Bool} {pn : List Nat} {ps : List (Option Nat)} {ws : List Bool} {now : List Cv} {safe : List (Option Cv)} {E : EL} {C : CM} (s : ByteArray)
 (ef : lkH h f = some (.own 69 [mslice a la ka, mslice b lb kb, mslice c lc kc, .bool sure])) (ea : lkH h a = some (.lst 70 1 ka (pn.map fun p => rp p))) (eb : lkH h b = some (.lst 70 1 kb (ps.map ro)))
 (ec : lkH h c = some (.lst 4 1 kc (ws.map .bool))) (er : lkH h r = some (restI E C)) (ha : la = pn.length) (hb : lb = ps.length) (hc : lc = ws.length) (hd : [f, a, b, c, r].Nodup)
 (c1 : All2 (fun p x => (p, x) ∈ C) pn now) (c2 : All2 (SafeC C) ps safe) :
 ∃ L : LF, m f L.g 0 ∧ HRel F B w0 m ((r, restI ((s, L, ⟨now, safe, ws, sure⟩) :: E) C) :: rmHs [f, a, b, c, r] h) n w := by
 obtain ⟨g, hg, _, hfen, l, hl, hblk⟩ := H.place ef
 obtain ⟨ga, sa, hga, oka⟩ := H.dom a _ ea
 obtain ⟨gb, sb, hgb, okb⟩ := H.dom b _ eb
 obtain ⟨gc, sc, hgc, okc⟩ := H.dom c _ ec
 obtain ⟨gr, sr, hgr, hroot, hlt, hfr, _, hR⟩ := H.dom r _ er
 have za := lst_mark oka
 have zb := lst_mark okb
 have zc := lst_mark okc
 obtain ⟨xa, hxa, ra⟩ := RowC.of oka
 obtain ⟨xb, hxb, rb⟩ := RowC.of okb
 obtain ⟨xc, hxc, rc⟩ := RowC.of okc
 obtain rfl := rps_cps.1 hxa
 obtain rfl := ros_cos.1 hxb
 obtain rfl := (flats (fun _ => rfl)).1 hxc
 subst ha hb hc
 obtain ⟨v1, v2, v3, v4, rfl⟩ : ∃ v1 v2 v3 v4, l = [v1, v2, v3, v4] := by
  match l, hl with
  | [v1, v2, v3, v4], _ => exact ⟨v1, v2, v3, v4, rfl⟩
 obtain ⟨q1, q2, q3, q4, _⟩ := hl
 obtain rfl := slc_val H.fn ((V1.of0 rfl).1 q1) hga za
 obtain rfl := slc_val H.fn ((V1.of0 rfl).1 q2) hgb zb
 obtain rfl := slc_val H.fn ((V1.of0 rfl).1 q3) hgc zc
 obtain rfl := (V1.flat rfl).1 q4
 simp only [List.nodup_cons, List.mem_cons, List.not_mem_nil, or_false, not_or, List.nodup_nil, and_true, not_false_eq_true] at hd
 obtain ⟨⟨fa, fb, fc, fr⟩, ⟨ab, ac, ar⟩, ⟨bc, br⟩, cr⟩ := hd
 have blA : ∀ {x}, x ∈ (⟨ga, sa, ka⟩ : Rl).bl → (Itm.lst 70 1 ka (pn.map fun p => rp p)).blk ga sa x := fun hx => (Rl.blk (r := ⟨ga, sa, ka⟩) rfl rfl).2 hx
 have blB : ∀ {x}, x ∈ (⟨gb, sb, kb⟩ : Rl).bl → (Itm.lst 70 1 kb (ps.map ro)).blk gb sb x := fun hx => (Rl.blk (r := ⟨gb, sb, kb⟩) rfl rfl).2 hx
 have blC : ∀ {x}, x ∈ (⟨gc, sc, kc⟩ : Rl).bl → (Itm.lst 4 1 kc (ws.map .bool)).blk gc sc x := fun hx => (Rl.blk (r := ⟨gc, sc, kc⟩) rfl rfl).2 hx
 have one : ∀ (r : Rl), r.bl.Nodup := fun r => by unfold Rl.bl; split <;> simp
 have kF : (Itm.own 69 [mslice a pn.length ka, mslice b ps.length kb, mslice c ws.length kc, .bool sure]).blk g 0 g := ⟨zero_ne_nilS, rfl⟩
 let L : LF := ⟨g, ⟨ga, sa, ka⟩, ⟨gb, sb, kb⟩, ⟨gc, sc, kc⟩, pn, ps⟩
 have inOwn : ∀ {x}, x ∈ L.own → ∃ j ∈ [f, a, b, c, r], ∃ jt g' s', lkH h j = some jt ∧ jt.mine = true ∧ m j g' s' ∧ jt.blk g' s' x ∧ j ≠ r := by
  intro x hx
  have hx : x ∈ g :: ((⟨ga, sa, ka⟩ : Rl).bl ++ (⟨gb, sb, kb⟩ : Rl).bl ++ (⟨gc, sc, kc⟩ : Rl).bl) := hx
  simp only [List.mem_cons, List.mem_append] at hx
  rcases hx with rfl | (hx | hx) | hx
  · exact ⟨f, by simp, _, _, _, ef, rfl, hg, kF, fr⟩
  · exact ⟨a, by simp, _, _, _, ea, rfl, hga, blA hx, ar⟩
  · exact ⟨b, by simp, _, _, _, eb, rfl, hgb, blB hx, br⟩
  · exact ⟨c, by simp, _, _, _, ec, rfl, hgc, blC hx, cr⟩
 have offR : ∀ {x}, x ∈ L.own → ¬ SR E C x := fun hx hs => by
  obtain ⟨j, _, jt, g', s', ej, hm, hj, hbk, hne⟩ := inOwn hx
  exact H.sep j jt r _ g' s' gr sr _ ej hm er hne hj hgr hbk hs
 have ndL : L.own.Nodup := by
  show (g :: ((⟨ga, sa, ka⟩ : Rl).bl ++ (⟨gb, sb, kb⟩ : Rl).bl ++ (⟨gc, sc, kc⟩ : Rl).bl)).Nodup
  rw [List.nodup_cons, List.nodup_append, List.nodup_append]
  refine ⟨fun hx => ?_, ⟨one _, one _, fun x hx y hy e => ?_⟩, one _, fun x hx y hy e => ?_⟩
  · simp only [List.mem_append] at hx
    rcases hx with (hx | hx) | hx
    · exact H.sep f _ a _ g 0 ga sa g ef rfl ea fa hg hga kF (blA hx)
    · exact H.sep f _ b _ g 0 gb sb g ef rfl eb fb hg hgb kF (blB hx)
    · exact H.sep f _ c _ g 0 gc sc g ef rfl ec fc hg hgc kF (blC hx)
  · subst e
    exact H.sep a _ b _ ga sa gb sb x ea rfl eb ab hga hgb (blA hx) (blB hy)
  · subst e
    rw [List.mem_append] at hx
    rcases hx with hx | hx
    · exact H.sep a _ c _ ga sa gc sc x ea rfl ec ac hga hgc (blA hx) (blC hy)
    · exact H.sep b _ c _ gb sb gc sc x eb rfl ec bc hgb hgc (blB hx) (blC hy)
 refine ⟨L, hg, H.closeAt [f, a, b, c, r] (i := r) (by simp) hgr _ (fun _ => RestAt ((s, L, ⟨now, safe, ws, sure⟩) :: E) C) ?_ ?_ (RestAt.stab _ _) ?_⟩
 · rintro x (hx | hx)
   · have hx : x ∈ L.own ++ owns E := hx
     rcases List.mem_append.1 hx with hx | hx
     · obtain ⟨j, h1, jt, g', s', h2, h3, h4, h5, _⟩ := inOwn hx
       exact ⟨j, h1, jt, g', s', h2, h3, h4, h5⟩
     · exact ⟨r, by simp, _, gr, sr, er, rfl, hgr, .inl hx⟩
   · exact ⟨r, by simp, _, gr, sr, er, rfl, hgr, .inr hx⟩
 · exact hroot
 · refine ⟨?_, fun x hx hb => ?_, fun e he => ?_, hR.cells⟩
   · show (L.own ++ owns E).Nodup
     rw [List.nodup_append]
     exact ⟨ndL, hR.nd, fun x hx y hy e => by subst e; exact offR hx (.inl hy)⟩
   · have hb : x.1 ∈ L.own ++ owns E := hb
     rcases List.mem_append.1 hb with hb | hb
     · exact offR hb (.inr ⟨x, hx, rfl⟩)
     · exact hR.off x hx hb
   · cases he with
     | head => exact ⟨by simpa using hblk, ra, rb, rc, c1, c2⟩
     | tail _ he => exact hR.files e he
theorem close_disk {i j r : Nat} {k : Dk} {E E2 : EL} {C : CM} {fs : Fs} (ei : lkH h i = some (.own 58 (dkv j k))) (ej : lkH h j = some (.mp (names E) (spots E))) (er : lkH h r = some (restI E2 C)) (hd : [i, j, r].Nodup)
 (hp : E2.Perm E) (hf : (E.map fun e => (e.1, e.2.2)).Perm fs) : ∃ S, HRel F B w0 m ((i, diskI S ⟨k, fs⟩) :: rmHs [i, j, r] h) n w := by
 obtain ⟨g, hg, _, hfen, l, hl, hblk⟩ := H.place ei
 obtain ⟨gj, sj, hgj, rfl, _, A, clk, h1, h2, h3⟩ := H.dom j _ ej
 obtain ⟨gr, sr, hgr, hroot, hlt, hfr, _, hR⟩ := H.dom r _ er
 simp only [List.nodup_cons, List.mem_cons, List.not_mem_nil, or_false, not_or, List.nodup_nil, and_true, not_false_eq_true] at hd
 obtain ⟨⟨ij, ir⟩, jr⟩ := hd
 have hl' : l = dkv gj k := by
  match l, hl with
  | [v1, v2, v3, v4, v5, v6, v7, v8], ⟨q1, q2, q3, q4, q5, q6, q7, q8, _⟩ =>
   obtain ⟨b, hb, rfl⟩ : ∃ b, A0 m ⟨j, 0, none⟩ b ∧ v1 = .map (some b.block) := (V1.of0 rfl).1 q1
   obtain ⟨g', s', hm, _, rfl⟩ := hb.old
   obtain ⟨rfl, rfl⟩ := H.fn _ _ _ _ _ hm hgj
   rw [(V1.flat rfl).1 q2, (V1.flat rfl).1 q3, (V1.flat rfl).1 q4, (V1.flat rfl).1 q5, (V1.flat rfl).1 q6, (V1.flat rfl).1 q7, (V1.flat rfl).1 q8]
 subst hl'
 have n1 : g ≠ gj := fun e => H.sep i _ j _ g 0 gj 0 g ei rfl ej ij hg hgj ⟨zero_ne_nilS, rfl⟩ ⟨zero_ne_nilS, e⟩
 have n2 : ¬ SR E2 C g := fun hs => H.sep i _ r _ g 0 gr sr g ei rfl er ir hg hgr ⟨zero_ne_nilS, rfl⟩ hs
 have n3 : ¬ SR E2 C gj := fun hs => H.sep j _ r _ gj 0 gr sr gj ej rfl er jr hgj hgr ⟨zero_ne_nilS, rfl⟩ hs
 refine ⟨fun b => b = g ∨ b = gj ∨ SR E C b, H.closeAt [i, j, r] (i := i) (by simp) hg _ (DiskAt _ ⟨k, fs⟩) ?_ (.inr rfl) (DiskAt.stab _ _ _) ?_⟩
 · rintro b (rfl | rfl | hb)
   · exact ⟨i, by simp, _, _, _, ei, rfl, hg, zero_ne_nilS, rfl⟩
   · exact ⟨j, by simp, _, _, _, ej, rfl, hgj, zero_ne_nilS, rfl⟩
   · exact ⟨r, by simp, _, gr, sr, er, rfl, hgr, (SR.perm hp).2 hb⟩
 · exact ⟨gj, E, C, A, clk, hblk, h1, h2, spots_cps.1 h3, hR.perm hp, n1, fun x => n2 ((SR.perm hp).2 x), fun x => n3 ((SR.perm hp).2 x), hf, .inl rfl, .inr (.inl rfl), fun b hb => .inr (.inr hb)⟩
omit H in
theorem perm_erase {α : Type} : ∀ {l : List α} {q : Nat} {a : α}, l[q]? = some a → (a :: l.eraseIdx q).Perm l
 | [], _, _, h => by simp at h
 | b :: l, 0, a, h => by simp at h; subst h; exact List.Perm.refl _
 | b :: l, q + 1, a, h => by
  rw [List.eraseIdx_cons_succ]
  exact (List.Perm.swap b a _).trans ((perm_erase (l := l) (q := q) (by simpa using h)).cons b)
theorem open_file {j r q : Nat} {ks : List Value} {E : EL} {C : CM} {s : ByteArray} {L : LF} {X : Fl} (ej : lkH h j = some (.mp ks (spots E))) (er : lkH h r = some (restI E C)) (hjr : j ≠ r) (hq : E[q]? = some (s, L, X)) :
 ∃ m', m.le m' ∧ m' n L.g 0 ∧ HRel F B w0 m' ((n + 3, .lst 4 1 L.c.k (X.wait.map .bool)) :: (n + 2, .lst 70 1 L.b.k (L.ps.map ro)) :: (n + 1, .lst 70 1 L.a.k (L.pn.map fun p => rp p)) ::
  (n, .own 69 [mslice (n + 1) L.pn.length L.a.k, mslice (n + 2) L.ps.length L.b.k, mslice (n + 3) X.wait.length L.c.k, .bool X.sure]) :: upH (upH h j (.mp ks ((spots E).set q (ptr n)))) r (restI (E.eraseIdx q) C)) (n + 4) w ∧
  All2 (fun p x => (p, x) ∈ C) L.pn X.now ∧ All2 (SafeC C) L.ps X.safe ∧ L.pn.length ≤ L.a.k ∧ L.ps.length ≤ L.b.k ∧ X.wait.length ≤ L.c.k := by
 have hlt : q < E.length := by
  rcases Nat.lt_or_ge q E.length with x | x
  · exact x
  · rw [List.getElem?_eq_none x] at hq; cases hq
 have hE : E[q] = (s, L, X) := by rw [List.getElem?_eq_getElem hlt] at hq; exact Option.some.inj hq
 have hp : ((s, L, X) :: E.eraseIdx q).Perm E := by exact perm_erase hq
 obtain ⟨gr, sr, hgr, hroot, hltR, hfr, _, hR⟩ := H.dom r _ er
 have hR' := hR.perm hp.symm
 have nd : (L.own ++ owns (E.eraseIdx q)).Nodup := hR'.nd
 rw [List.nodup_append] at nd
 obtain ⟨ndL, ndE, ndX⟩ := nd
 have offC : ∀ x ∈ C, x.1 ∉ L.own := fun x hx hb => hR'.off x hx (List.mem_append_left _ hb)
 have inS : ∀ {b}, b ∈ L.own → SR E C b := fun hb => (SR.perm hp).1 (.inl (List.mem_append_left _ hb))
 have notS : ∀ {b}, b ∈ L.own → ¬ SR (E.eraseIdx q) C b := fun hb hs => by
  rcases hs with hs | ⟨x, hx, rfl⟩
  · exact ndX _ hb _ hs rfl
  · exact offC x hx hb
 have fen := hfr rfl
 have hF : FileAt w C L X := hR'.files _ (List.Mem.head _)
 have ndL' : (L.g :: (L.a.bl ++ L.b.bl ++ L.c.bl)).Nodup := ndL
 rw [List.nodup_cons, List.nodup_append, List.nodup_append] at ndL'
 obtain ⟨n0, ⟨_, _, nab⟩, _, nabc⟩ := ndL'
 simp only [List.mem_append, not_or] at n0
 have oa : ∀ {b}, b ∈ L.a.bl → b ∈ L.own := fun hb => by unfold LF.own; simp [hb]
 have ob : ∀ {b}, b ∈ L.b.bl → b ∈ L.own := fun hb => by unfold LF.own; simp [hb]
 have oc : ∀ {b}, b ∈ L.c.bl → b ∈ L.own := fun hb => by unfold LF.own; simp [hb]
 have og : L.g ∈ L.own := by unfold LF.own; simp
 have H1 := (((H.name L.g 0).name L.a.g L.a.s).name L.b.g L.b.s).name L.c.g L.c.s
 generalize hm4 : (((m.put n L.g 0).put (n + 1) L.a.g L.a.s).put (n + 1 + 1) L.b.g L.b.s).put (n + 1 + 1 + 1) L.c.g L.c.s = m4 at H1
 have k0 : m4 n L.g 0 := by subst hm4; exact .inl (.inl (.inl (.inr ⟨rfl, rfl, rfl⟩)))
 have k1 : m4 (n + 1) L.a.g L.a.s := by subst hm4; exact .inl (.inl (.inr ⟨rfl, rfl, rfl⟩))
 have k2 : m4 (n + 2) L.b.g L.b.s := by subst hm4; exact .inl (.inr ⟨rfl, rfl, rfl⟩)
 have k3 : m4 (n + 3) L.c.g L.c.s := by subst hm4; exact .inr ⟨rfl, rfl, rfl⟩
 have kle : m.le m4 := by subst hm4; exact fun _ _ _ x => .inl (.inl (.inl (.inl x)))
 have H2 := H1.re (it' := .mp ks ((spots E).set q (ptr n))) ej (fun _ => rfl) (fun _ _ _ hb => hb) (fun g' s' _ ok => by
  obtain ⟨a, b, A, clk, x, y, z⟩ := ok
  refine ⟨a, b, A, clk, x, y, ?_⟩
  have hv : V1 m4 (ptr n) (cp L.g) := (V1.of0 rfl).2 ⟨_, A0.in k0 zero_ne_nilS, by rw [sh_zero]⟩
  have := z.set q hv
  rw [spots_cps.1 z] at this ⊢
  have hset : (E.map fun e => cp e.2.1.g).set q (cp L.g) = E.map fun e => cp e.2.1.g := by
   apply List.ext_getElem?
   intro i
   rw [List.getElem?_set]
   split
   · rename_i hi
     subst hi
     simp [hlt, hE]
   · rfl
  rwa [hset] at this)
 have er2 : lkH (upH h j (.mp ks ((spots E).set q (ptr n)))) r = some (restI E C) := by rw [lkH_up ej, if_neg (fun z => hjr z.symm)]; exact er
 have A1 := H2.shrink (S' := SR (E.eraseIdx q) C) (Φ' := fun _ => RestAt (E.eraseIdx q) C) er2 (fun b hb => (SR.perm hp).1 (hb.imp (fun hb => List.mem_append_right _ hb) id)) (fun g' s' hg' ok => by
  obtain ⟨a, b, c, _, d⟩ := ok
  have d' := d.perm hp.symm
  refine ⟨a, fun x hx => b x ?_, fun _ x hx => c rfl x ?_, RestAt.stab _ _, ndE, fun x hx hb => d'.off x hx (List.mem_append_right _ hb), fun e he => d'.files e (List.Mem.tail _ he), d'.cells⟩
  · exact (SR.perm hp).1 (hx.imp (fun hb => List.mem_append_right _ hb) id)
  · exact (SR.perm hp).1 (hx.imp (fun hb => List.mem_append_right _ hb) id))
 have lkn : ∀ k, n ≤ k → lkH (upH (upH h j (.mp ks ((spots E).set q (ptr n)))) r (restI (E.eraseIdx q) C)) k = none := fun k hk => lkH_up_none er2 (lkH_up_none ej (H.none hk))
 have A2 := A1.give k0 (lkn n (Nat.le_refl _)) (.own 69 [mslice (n + 1) L.pn.length L.a.k, mslice (n + 2) L.ps.length L.b.k, mslice (n + 3) X.wait.length L.c.k, .bool X.sure])
  ⟨rfl, fen _ (inS og), [L.a.val L.pn.length, L.b.val L.ps.length, L.c.val X.wait.length, .bool X.sure], ⟨(V1.of0 rfl).2 (hF.r1.slc k1 (by simp)), (V1.of0 rfl).2 (hF.r2.slc k2 (by simp)), (V1.of0 rfl).2 (hF.r3.slc k3 (by simp)), (V1.flat rfl).2 rfl, trivial⟩, hF.blk⟩ (by
   rintro b ⟨_, rfl⟩ (hb | hb)
   · exact hb (inS og)
   · exact notS og hb)
 have A3 := A2.give k1 (by rw [lkH_cons (by omega)]; exact lkn _ (by omega)) (.lst 70 1 L.a.k (L.pn.map fun p => rp p)) (hF.r1.item (rps_cps.2 rfl) fun b hb => fen b (inS (oa hb))) (by
  intro b hb hU
  replace hb := (Rl.blk rfl rfl).1 hb
  rcases hU with (hU | hU) | ⟨_, rfl⟩
  · exact hU (inS (oa hb))
  · exact notS (oa hb) hU
  · exact n0.1.1 hb)
 have A4 := A3.give k2 (by rw [lkH_cons (by omega), lkH_cons (by omega)]; exact lkn _ (by omega)) (.lst 70 1 L.b.k (L.ps.map ro)) (hF.r2.item (ros_cos.2 rfl) fun b hb => fen b (inS (ob hb))) (by
  intro b hb hU
  replace hb := (Rl.blk rfl rfl).1 hb
  rcases hU with ((hU | hU) | ⟨_, rfl⟩) | hU
  · exact hU (inS (ob hb))
  · exact notS (ob hb) hU
  · exact n0.1.2 hb
  · exact nab _ ((Rl.blk rfl rfl).1 hU) _ hb rfl)
 have A5 := A4.give k3 (by rw [lkH_cons (by omega), lkH_cons (by omega), lkH_cons (by omega)]; exact lkn _ (by omega)) (.lst 4 1 L.c.k (X.wait.map .bool)) (hF.r3.item ((flats (fun _ => rfl)).2 rfl) fun b hb => fen b (inS (oc hb))) (by
  intro b hb hU
  replace hb := (Rl.blk rfl rfl).1 hb
  rcases hU with (((hU | hU) | ⟨_, rfl⟩) | hU) | hU
  · exact hU (inS (oc hb))
  · exact notS (oc hb) hU
  · exact n0.2 hb
  · exact nabc _ (List.mem_append_left _ ((Rl.blk rfl rfl).1 hU)) _ hb rfl
  · exact nabc _ (List.mem_append_right _ ((Rl.blk rfl rfl).1 hU)) _ hb rfl)
 exact ⟨m4, kle, k0, A5.H, hF.c1, hF.c2, by simpa using hF.r1.len, by simpa using hF.r2.len, by simpa using hF.r3.len⟩
end
abbrev rawH (k : Dk) (E : EL) (C : CM) : HP := [(0, .own 58 (dkv 1 k)), (1, .mp (names E) (spots E)), (2, restI E C)]
structure Fx where
 pn : List Nat
 ps : List (Option Nat)
 ws : List Bool
 sure : Bool
 ka : Nat
 kb : Nat
 kc : Nat
abbrev fileI (i : Nat) (x : Fx) : Itm := .own 69 [mslice (i + 1) x.pn.length x.ka, mslice (i + 2) x.ps.length x.kb, mslice (i + 3) x.ws.length x.kc, .bool x.sure]
abbrev nowI (x : Fx) : Itm := .lst 70 1 x.ka (x.pn.map fun p => rp p)
abbrev safeI (x : Fx) : Itm := .lst 70 1 x.kb (x.ps.map ro)
abbrev waitI (x : Fx) : Itm := .lst 4 1 x.kc (x.ws.map .bool)
abbrev focH (k : Dk) (E : EL) (q : Nat) (C : CM) (x : Fx) : HP :=
 [(0, .own 58 (dkv 1 k)), (1, .mp (names E) ((spots E).set q (ptr 3))), (2, restI (E.eraseIdx q) C), (3, fileI 3 x), (4, nowI x), (5, safeI x), (6, waitI x)]
abbrev fxOf (L : LF) (X : Fl) : Fx := ⟨L.pn, L.ps, X.wait, X.sure, L.a.k, L.b.k, L.c.k⟩
structure FxCap (x : Fx) : Prop where
 a : x.pn.length ≤ x.ka
 b : x.ps.length ≤ x.kb
 c : x.ws.length ≤ x.kc
structure FxOk (C : CM) (x : Fx) (X : Fl) : Prop where
 c1 : All2 (fun p x => (p, x) ∈ C) x.pn X.now
 c2 : All2 (SafeC C) x.ps X.safe
 ws : x.ws = X.wait
 sure : x.sure = X.sure
theorem spots_set {m : BM} {E : EL} {q f g : Nat} {s : ByteArray} {L : LF} {X : Fl} (hq : E[q]? = some (s, L, X)) (hf : m.Fn) (hm : m f g 0) {x : List Value} (h : LR (V1 m) ((spots E).set q (ptr f)) x) :
 x = (E.map fun e => cp e.2.1.g).set q (cp g) := by
 have h2 : LR (V1 m) ((spots E).set q (ptr f)) ((E.map fun e => cp e.2.1.g).set q (cp g)) := (spots_cps.2 rfl).set q ((V1.of0 rfl).2 ⟨_, A0.in hm zero_ne_nilS, by rw [sh_zero]⟩)
 exact (LR.fn (R := V1 m) (fun _ _ _ => V1.fn hf) h h2)
section
variable {F : Nat → Prop} {B : Nat} {w0 : World} {m : BM} {n : Nat} {w : World}
theorem close_raw {k : Dk} {E : EL} {C : CM} {fs : Fs} (H : HRel F B w0 m (rawH k E C) n w) (hf : (E.map fun e => (e.1, e.2.2)).Perm fs) : ∃ S, HRel F B w0 m [(0, diskI S ⟨k, fs⟩)] n w := by
 obtain ⟨S, H'⟩ := close_disk H (i := 0) (j := 1) (r := 2) rfl rfl rfl (by simp) (List.Perm.refl _) hf
 exact ⟨S, H'⟩
def setE (E : EL) (q : Nat) (s : ByteArray) (L : LF) (X : Fl) : EL := E.set q (s, L, X)
theorem erase_set_perm {α : Type} : ∀ {l : List α} {q : Nat} (a : α), q < l.length → (a :: l.eraseIdx q).Perm (l.set q a)
 | _ :: l, 0, a, _ => List.Perm.refl _
 | b :: l, q + 1, a, h => by
  rw [List.eraseIdx_cons_succ, List.set_cons_succ]
  exact (List.Perm.swap b a _).trans ((erase_set_perm (l := l) (q := q) a (by simpa using h)).cons b)
theorem close_foc {k : Dk} {E : EL} {q : Nat} {C : CM} {x : Fx} {s : ByteArray} {L : LF} {X X' : Fl} {fs : Fs} (H : HRel F B w0 m (focH k E q C x) n w) (hq : E[q]? = some (s, L, X)) (ok : FxOk C x X')
 (hf : ((E.map fun e => (e.1, e.2.2)).set q (s, X')).Perm fs) : ∃ S, HRel F B w0 m [(0, diskI S ⟨k, fs⟩)] n w := by
 have hlt : q < E.length := by
  rcases Nat.lt_or_ge q E.length with y | y
  · exact y
  · rw [List.getElem?_eq_none y] at hq; cases hq
 obtain ⟨X'1, X'2, X'3, X'4⟩ := X'
 obtain ⟨c1, c2, c3, c4⟩ := ok
 dsimp only at c1 c2 c3 c4
 obtain ⟨L', hm, H2⟩ := close_file H (f := 3) (a := 4) (b := 5) (c := 6) (r := 2) s rfl rfl rfl rfl rfl rfl rfl rfl (by simp) c1 c2
 have H2 : HRel F B w0 m [(2, restI ((s, L', ⟨X'1, X'2, x.ws, x.sure⟩) :: E.eraseIdx q) C), (0, .own 58 (dkv 1 k)), (1, .mp (names E) ((spots E).set q (ptr 3)))] n w := H2
 rw [c3, c4] at H2
 let E' : EL := E.set q (s, L', ⟨X'1, X'2, X'3, X'4⟩)
 have hn : names E' = names E := by
  apply List.ext_getElem?
  intro i
  rw [List.getElem?_map, List.getElem?_map, List.getElem?_set]
  split
  · rename_i hi
    subst hi
    rw [hq]
    rfl
  · rfl
 have H3 := H2.re (i := 1) (it' := .mp (names E') (spots E')) rfl (fun _ => rfl) (fun _ _ _ hb => hb) (fun g' s' _ okm => by
  obtain ⟨a, b, A, clk, y1, y2, y3⟩ := okm
  refine ⟨a, b, A, clk, y1, hn ▸ y2, spots_cps.2 ?_⟩
  rw [spots_set hq H2.fn hm y3]
  show _ = (E.set q _).map _
  rw [List.map_set])
 obtain ⟨S, H4⟩ := close_disk H3 (i := 0) (j := 1) (r := 2) (E := E') rfl rfl rfl (by simp) (erase_set_perm _ hlt) (by
  show ((E.set q _).map _).Perm fs
  rw [List.map_set]
  exact hf)
 exact ⟨S, H4⟩
end
end Go.Proofs.YtelolcagncgfpaaGreat
