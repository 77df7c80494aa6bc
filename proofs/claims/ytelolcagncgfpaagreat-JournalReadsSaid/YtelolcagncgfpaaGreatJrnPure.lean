/- The journal as plain data: what is noted, sealed, found; where nothing is amiss all that was sealed is found; a disk of two files, a database changed under its journal. No program in sight. -/
import Derived.Test.YtelolcagncgfpaaGreatDiskFs
import Derived.Test.YtelolcagncgfpaaGreatSealWalk
namespace Go.Proofs.YtelolcagncgfpaaGreat
open Go.RowKit
set_option linter.unusedSimpArgs false
set_option linter.unusedVariables false
def pgS (n : Nat) (b : Int) : ByteArray := strOf (List.replicate n (UInt8.ofNat b.toNat))
theorem pgS_size (n : Nat) (b : Int) : (pgS n b).size = n := by unfold pgS; rw [strOf_size, List.length_replicate]
abbrev fN : ByteArray := ⟨#[102]⟩
abbrev gN : ByteArray := ⟨#[103]⟩
theorem f_good : goodName fN = true := by decide
theorem beg_up {k : Dk} {s : ByteArray} (hs : goodName s = true) (h1 : k.down = false) (h2 : k.at' = 0) : begS k s true = (0, { k with ops := k.ops + 1 }) := by
 unfold begS
 rw [if_neg (by rw [hs]; simp), if_neg (by rw [h1]; decide), if_pos h2]
theorem beg_down {k : Dk} {s : ByteArray} (hs : goodName s = true) (h1 : k.down = true) : begS k s true = (10, k) := by
 unfold begS
 rw [if_neg (by rw [hs]; simp), if_pos h1]
theorem beg_bad {k : Dk} {s : ByteArray} {r : Bool} (hs : goodName s = false ∨ r = false) : begS k s r = (1, k) := by
 unfold begS
 rw [if_pos hs]
theorem found_up {k : Dk} {fs : Fs} {s : ByteArray} {X : Fl} (hs : goodName s = true) (h1 : k.down = false) (h2 : k.at' = 0) (hf : findF fs s = some X) : foundD ⟨k, fs⟩ s true = (0, ⟨{ k with ops := k.ops + 1 }, fs⟩) := by
 unfold foundD
 rw [beg_up hs h1 h2, hf]
 rfl
theorem found_no {k : Dk} {fs : Fs} {s : ByteArray} (hs : goodName s = true) (h1 : k.down = false) (h2 : k.at' = 0) (hf : findF fs s = none) : foundD ⟨k, fs⟩ s true = (14, ⟨{ k with ops := k.ops + 1 }, fs⟩) := by
 unfold foundD
 rw [beg_up hs h1 h2, hf]
 rfl
theorem right_up {i : Int} {d : ByteArray} (hi : 0 ≤ i) (hd : d.size = 256) : (decide (0 ≤ i) && decide (d.size = 256)) = true := by rw [decide_eq_true hi, decide_eq_true hd]; rfl
theorem write_up {k : Dk} {fs : Fs} {s d : ByteArray} {i : Int} {X : Fl} (hs : goodName s = true) (h1 : k.down = false) (h2 : k.at' = 0) (hf : findF fs s = some X) (hi : 0 ≤ i) (hd : d.size = 256) (hl : i ≤ X.now.length) (hr : i = X.now.length → (total fs : Int) < k.room) :
 writeD ⟨k, fs⟩ s i d = (0, ⟨{ k with ops := k.ops + 1 }, putF fs s (writeF X i.toNat d)⟩) := by
 unfold writeD
 rw [right_up hi hd, found_up hs h1 h2 hf, hf]
 dsimp only [Option.getD_some]
 rw [if_neg (by simp), if_neg (by omega), if_neg]
 rintro (⟨h, _⟩ | ⟨h, h'⟩)
 · cases h
 · have := hr h; omega
theorem write_new {k : Dk} {fs : Fs} {s d : ByteArray} (hs : goodName s = true) (h1 : k.down = false) (h2 : k.at' = 0) (hf : findF fs s = none) (hd : d.size = 256) (hl : fs.length < 8) (hr : (total fs : Int) < k.room) :
 writeD ⟨k, fs⟩ s 0 d = (0, ⟨{ k with ops := k.ops + 1 }, putF fs s ⟨[some d], [none], [true], false⟩⟩) := by
 unfold writeD
 rw [right_up (Int.le_refl 0) hd, found_no hs h1 h2 hf, hf]
 dsimp only [Option.getD_none]
 rw [if_neg (by simp), if_neg (show ¬ ((fl0.now.length : Int) < 0) by decide), if_neg]
 · rfl
 · rintro (⟨_, h⟩ | ⟨_, h⟩) <;> omega
theorem sync_up {k : Dk} {fs : Fs} {s : ByteArray} {X : Fl} (hs : goodName s = true) (h1 : k.down = false) (h2 : k.at' = 0) (hf : findF fs s = some X) : syncD ⟨k, fs⟩ s = (0, ⟨{ k with ops := k.ops + 1 }, putF fs s (syncF X)⟩) := by
 unfold syncD
 rw [found_up hs h1 h2 hf, hf]
 rfl
theorem read_up {k : Dk} {fs : Fs} {s : ByteArray} {X : Fl} {i : Int} (hs : goodName s = true) (h1 : k.down = false) (h2 : k.at' = 0) (hf : findF fs s = some X) : readD ⟨k, fs⟩ s i = (readF X i, ⟨{ k with ops := k.ops + 1 }, fs⟩) := by
 unfold readD
 rw [found_up hs h1 h2 hf, hf]
 rfl
theorem find_one {s : ByteArray} {X : Fl} : findF [(s, X)] s = some X := by rw [find_cons, if_pos rfl]
theorem put_one {s : ByteArray} {X Y : Fl} : putF [(s, X)] s Y = [(s, Y)] := put_cons_eq
theorem up_ok {D : DM} {n : Int} (h : D.OkN n) (hn : n ≤ 1000000) : D.Ok := h.ok (Int.lt_of_le_of_lt hn (by decide))
end Go.Proofs.YtelolcagncgfpaaGreat
namespace Go.Proofs.YtelolcagncgfpaaGreat
open Go.RowKit
set_option linter.unusedSimpArgs false
set_option linter.unusedVariables false
abbrev jnN : ByteArray := ⟨#[106, 111, 117, 114, 110, 97, 108]⟩
abbrev mainN : ByteArray := ⟨#[100, 97, 116, 97]⟩
abbrev Pg := Int × ByteArray
structure JM where
 pages : Int
 salt : Int
 noted : List Int
 loose : Int
 feet : Int
def footS (pages feet : Int) : ByteArray := strOf (fixedL pages.toNat 4 ++ fixedL feet.toNat 4 ++ List.replicate 224 0)
theorem footS_size (p f : Int) : (footS p f).size = 232 := by unfold footS; rw [strOf_size]; simp only [List.length_append, fixedL_length, List.length_replicate]
noncomputable def layD (salt : Int) (D : DM) (kind number : Int) (data : ByteArray) : Int × DM :=
 if closeE kind number data = 0 then writeD D jnN (max (sizeD D jnN) 0) (closeS kind number salt.toNat data) else (closeE kind number data, D)
noncomputable def noteJ (J : JM) (D : DM) (n : Int) (data : ByteArray) : Int × JM × DM :=
 if n < 0 ∨ J.pages ≤ n ∨ data.size ≠ 232 then (1, J, D)
 else if n ∈ J.noted then (0, J, D)
 else if (layD J.salt D 2 n data).1 = 0 then (0, { J with noted := J.noted ++ [n], loose := J.loose + 1 }, (layD J.salt D 2 n data).2)
 else ((layD J.salt D 2 n data).1, J, (layD J.salt D 2 n data).2)
noncomputable def presyncJ (J : JM) (D : DM) : Int × DM := if 0 < J.loose then syncD D jnN else (0, D)
noncomputable def sealJ (J : JM) (D : DM) : Int × JM × DM :=
 if 0 < J.feet ∧ J.loose = 0 then (0, J, D)
 else
  let s := presyncJ J D
  if s.1 ≠ 0 then (s.1, J, s.2)
  else
   let r := layD J.salt s.2 3 J.loose (footS J.pages J.feet)
   if r.1 ≠ 0 then (r.1, J, r.2)
   else
    let t := syncD r.2 jnN
    if t.1 ≠ 0 then (t.1, J, t.2) else (0, { J with feet := J.feet + 1, loose := 0 }, t.2)
noncomputable def gonJ (D : DM) : Int × DM := if sizeD D jnN < 0 then (0, D) else dropD D jnN
structure FM where
 pages : Int
 feet : Int
 salt : Int
 sure : List Pg
 loose : List Pg
def fm0 : FM := ⟨0, 0, 0, [], []⟩
noncomputable def addF (F : FM) (k n salt : Int) (d : ByteArray) (first : Bool) : Option FM := by
 classical exact
  if first = false ∧ salt ≠ F.salt then none
  else if k = 2 then if n < 4096 then some { F with salt := salt, loose := F.loose ++ [(n, d)] } else none
  else if k = 3 then
   let m : Int := (numOf ((bytesOf d).take 4) : Nat)
   if 4096 < m ∨ (0 < F.feet ∧ m ≠ F.pages) ∨ d ≠ footS m F.feet ∨ n ≠ F.loose.length ∨ (∃ p ∈ F.loose, m ≤ p.1) then none
   else some ⟨m, F.feet + 1, salt, F.sure ++ F.loose, []⟩
  else none
noncomputable def stepF (F : FM) (s : ByteArray) (first : Bool) : Option FM :=
 if openE s = 0 then addF F (kindAt (bytesOf s) : Nat) (numberAt (bytesOf s) : Nat) (saltAt (bytesOf s) : Nat) (s.extract 0 232) first else none
noncomputable def findL : Nat → Nat → FM → DM → (Int × FM) × DM
 | 0, _, F, D => ((0, F), D)
 | m + 1, i, F, D =>
  let r := readD D jnN (i : Nat)
  if r.1.2 ≠ 0 ∧ r.1.2 ≠ 13 then ((r.1.2, F), r.2)
  else match stepF F r.1.1 (decide (i = 0)) with
   | none => ((0, F), r.2)
   | some F' => findL m (i + 1) F' r.2
noncomputable def findJ (D : DM) : (Int × FM) × DM := findL (max (sizeD D jnN) 0).toNat 0 fm0 D
noncomputable def runC : List Cv → FM → Bool → Option FM
 | [], F, _ => some F
 | none :: _, _, _ => none
 | some d :: r, F, b => match stepF F d b with | none => none | some F' => runC r F' false
theorem runC_app : ∀ {l r : List Cv} {F F' : FM} {b : Bool}, runC l F b = some F' → runC (l ++ r) F b = runC r F' (b && l.isEmpty)
 | [], r, F, F', b, h => by cases h; simp
 | none :: l, r, F, F', b, h => by cases h
 | some d :: l, r, F, F', b, h => by
  simp only [runC, List.cons_append] at h ⊢
  cases hs : stepF F d b with
  | none => rw [hs] at h; cases h
  | some F2 =>
   rw [hs] at h
   dsimp only at h ⊢
   rw [runC_app h]
   simp
structure UpD (D : DM) (n : Int) : Prop where
 ok : D.OkN n
 down : D.k.down = false
 at0 : D.k.at' = 0
theorem UpD.mono {D : DM} {n m : Int} (h : UpD D n) (hn : n ≤ m) : UpD D m := ⟨h.ok.mono hn, h.down, h.at0⟩
theorem jn_good : goodName jnN = true := by decide
theorem main_good : goodName mainN = true := by decide
theorem UpD.read {D : DM} {n : Int} (h : UpD D n) {s : ByteArray} (hs : goodName s = true) {x : Fl} (hx : findF D.fs s = some x) (i : Int) : readD D s i = (readF x i, (readD D s i).2) ∧ (readD D s i).2.fs = D.fs ∧ UpD (readD D s i).2 (n + 1) := by
 have h1 := read_okN h.ok s i
 obtain ⟨k, fs⟩ := D
 rw [read_up hs h.down h.at0 hx] at h1 ⊢
 exact ⟨rfl, rfl, h1, h.down, h.at0⟩
theorem find_run {x : Fl} : ∀ (m i : Nat) {F F' : FM} {D : DM} {n : Int}, UpD D n → findF D.fs jnN = some x → i + m = x.now.length → runC (x.now.drop i) F (decide (i = 0)) = some F' →
 (findL m i F D).1 = (0, F') ∧ (findL m i F D).2.fs = D.fs ∧ UpD (findL m i F D).2 (n + m)
 | 0, i, F, F', D, n, h, hx, hi, hr => by
  rw [List.drop_of_length_le (by omega)] at hr
  cases hr
  exact ⟨rfl, rfl, h.mono (by omega)⟩
 | m + 1, i, F, F', D, n, h, hx, hi, hr => by
  have hil : i < x.now.length := by omega
  obtain ⟨h1, h2, h3⟩ := h.read jn_good hx (i : Nat)
  have hd : x.now.drop i = x.now[i] :: x.now.drop (i + 1) := List.drop_eq_getElem_cons hil
  rw [hd] at hr
  have hv : readF x (i : Nat) = readC (some x.now[i]) := by
   unfold readF
   rw [if_neg (by omega), Int.toNat_natCast, List.getElem?_eq_getElem hil]
  cases hc : x.now[i] with
  | none => rw [hc] at hr; cases hr
  | some d =>
   rw [hc] at hr hv
   simp only [runC] at hr
   have e1 : (readD D jnN (i : Nat)).1 = (d, 0) := by rw [h1, hv]; rfl
   unfold findL
   dsimp only
   rw [e1]
   dsimp only
   rw [if_neg (by simp)]
   cases hs : stepF F d (decide (i = 0)) with
   | none => rw [hs] at hr; cases hr
   | some F2 =>
    rw [hs] at hr
    dsimp only at hr ⊢
    have := find_run m (i + 1) (F := F2) (F' := F') h3 (by rw [h2]; exact hx) (by omega) (by rw [show decide (i + 1 = 0) = false by simp]; exact hr)
    refine ⟨this.1, this.2.1.trans h2, this.2.2.mono (by omega)⟩
theorem fix4_take {p : Int} (f : Int) (h : 0 ≤ p ∧ p < 4294967296) : (numOf ((bytesOf (footS p f)).take 4) : Int) = p := by
 unfold footS
 rw [bytesOf_strOf, List.append_assoc, List.take_left' (fixedL_length _ _), fixed4 (by omega)]
 omega
theorem step_rec {F : FM} {n salt : Int} {d : ByteArray} {b : Bool} (hn : 0 ≤ n ∧ n < 4096) (hd : d.size = 232) (hs : U64 salt) (hb : b = true ∨ salt = F.salt) :
 closeE 2 n d = 0 ∧ (closeS 2 n salt.toNat d).size = 256 ∧ stepF F (closeS 2 n salt.toNat d) b = some { F with salt := salt, loose := F.loose ++ [(n, d)] } := by
 have hok : sealOk 2 n (bytesOf d) = true := sealOk_iff.2 ⟨by omega, by omega, by rw [bytesOf_length]; exact hd⟩
 have hlt : salt.toNat < 18446744073709551616 := by have := hs.2; omega
 obtain ⟨h1, h2, h3, h4, h5⟩ := seal_open hok hlt
 have e : closeS 2 n salt.toNat d = strOf (sealL 2 n salt.toNat (bytesOf d)) := by unfold closeS; rw [if_pos hok]
 refine ⟨by unfold closeE; rw [if_pos hok], by rw [e, strOf_size, sealL_length (by rw [bytesOf_length]; exact hd)], ?_⟩
 have hx : (closeS 2 n salt.toNat d).extract 0 232 = d := by
  rw [← bytesOf_inj, bytesOf_extract, List.drop_zero, e, bytesOf_strOf, h2]
 unfold stepF
 rw [if_pos (by unfold openE; rw [e, bytesOf_strOf, if_pos h1]), hx, e, bytesOf_strOf, h3, h4, h5]
 unfold addF
 have hsalt : ((salt.toNat : Nat) : Int) = salt := by have := hs.1; omega
 rw [hsalt, if_neg (by rintro ⟨h, h'⟩; rcases hb with hb | hb; · rw [hb] at h; cases h
                       · exact h' hb), if_pos rfl, if_pos hn.2]
theorem step_foot {F : FM} {p salt : Int} {b : Bool} (hp : 0 ≤ p ∧ p ≤ 4096) (hf : F.feet = 0 ∨ F.pages = p) (hl : F.loose.length < 4294967296) (hs : U64 salt) (hb : b = true ∨ salt = F.salt) (ha : ∀ q ∈ F.loose, q.1 < p) :
 closeE 3 (F.loose.length : Nat) (footS p F.feet) = 0 ∧ (closeS 3 (F.loose.length : Nat) salt.toNat (footS p F.feet)).size = 256 ∧
 stepF F (closeS 3 (F.loose.length : Nat) salt.toNat (footS p F.feet)) b = some ⟨p, F.feet + 1, salt, F.sure ++ F.loose, []⟩ := by
 obtain ⟨d, hd⟩ : ∃ d, d = footS p F.feet := ⟨_, rfl⟩
 have hsz : d.size = 232 := by rw [hd, footS_size]
 have htk : ((numOf ((bytesOf d).take 4) : Nat) : Int) = p := by rw [hd]; exact fix4_take _ (by omega)
 rw [← hd]
 have hok : sealOk 3 (F.loose.length : Nat) (bytesOf d) = true := sealOk_iff.2 ⟨by omega, by omega, by rw [bytesOf_length]; exact hsz⟩
 have hlt : salt.toNat < 18446744073709551616 := by have := hs.2; omega
 obtain ⟨h1, h2, h3, h4, h5⟩ := seal_open hok hlt
 have e : closeS 3 (F.loose.length : Nat) salt.toNat d = strOf (sealL 3 (F.loose.length : Nat) salt.toNat (bytesOf d)) := by unfold closeS; rw [if_pos hok]
 refine ⟨by unfold closeE; rw [if_pos hok], by rw [e, strOf_size, sealL_length (by rw [bytesOf_length]; exact hsz)], ?_⟩
 have hx : (closeS 3 (F.loose.length : Nat) salt.toNat d).extract 0 232 = d := by
  rw [← bytesOf_inj, bytesOf_extract, List.drop_zero, e, bytesOf_strOf, h2]
 unfold stepF
 rw [if_pos (by unfold openE; rw [e, bytesOf_strOf, if_pos h1]), hx, e, bytesOf_strOf, h3, h4, h5]
 have hsalt : ((salt.toNat : Nat) : Int) = salt := by have := hs.1; omega
 unfold addF
 dsimp only
 rw [hsalt, if_neg (by rintro ⟨h, h'⟩; rcases hb with hb | hb; · rw [hb] at h; cases h
                       · exact h' hb), if_neg (by decide), if_pos rfl, htk, if_neg]
 rintro (h | ⟨h, h'⟩ | h | h | ⟨q, hq, h⟩)
 · omega
 · rcases hf with hf | hf
   · omega
   · exact h' hf.symm
 · exact h hd
 · exact h rfl
 · have := ha q hq; omega
end Go.Proofs.YtelolcagncgfpaaGreat
namespace Go.Proofs.YtelolcagncgfpaaGreat
open Go.RowKit
set_option linter.unusedSimpArgs false
set_option linter.unusedVariables false
noncomputable def runAt (J : JM) (all : List Pg) (sure : Nat) : FM := ⟨if J.feet = 0 then 0 else J.pages, J.feet, J.salt, all.take sure, all.drop sure⟩
def FileR (J : JM) (fs : Fs) (all : List Pg) (sure : Nat) : Prop :=
 (fs = [] ∧ all = [] ∧ J.feet = 0) ∨ ∃ x, fs = [(jnN, x)] ∧ x.now ≠ [] ∧ (x.now.length : Int) = all.length + J.feet ∧ runC x.now fm0 true = some (runAt J all sure)
structure JrR (J : JM) (D : DM) (all : List Pg) (sure c : Nat) (n : Int) : Prop where
 up : UpD D n
 pages : 0 ≤ J.pages ∧ J.pages ≤ 4096
 salt : U64 J.salt
 feet : 0 ≤ J.feet
 file : FileR J D.fs all sure
 noted : J.noted = all.map fun q => q.1
 loose : J.loose = (all.length - sure : Nat)
 sle : sure ≤ all.length
 zero : J.feet = 0 → sure = 0
 ins : ∀ q ∈ all, (0 ≤ q.1 ∧ q.1 < J.pages) ∧ q.2.size = 232
 few : (all.length : Int) + J.feet ≤ c
 room : 100 ≤ D.k.room
section
variable {J : JM} {D : DM} {all : List Pg} {sure c : Nat} {n : Int}
theorem lay_step (up : UpD D n) (hr : 100 ≤ D.k.room) {l : Int} (hc : l < 100) {F F' : FM} (hf : (D.fs = [] ∧ F = fm0 ∧ l = 0) ∨ ∃ x, D.fs = [(jnN, x)] ∧ x.now ≠ [] ∧ (x.now.length : Int) = l ∧ runC x.now fm0 true = some F)
 {kind number salt : Int} {d : ByteArray} (h1 : closeE kind number d = 0) (h2 : (closeS kind number salt.toNat d).size = 256) (h3 : stepF F (closeS kind number salt.toNat d) (decide (D.fs = [])) = some F') :
 (layD salt D kind number d).1 = 0 ∧ UpD (layD salt D kind number d).2 (n + 1) ∧ (layD salt D kind number d).2.k.room = D.k.room ∧
 ∃ x, (layD salt D kind number d).2.fs = [(jnN, x)] ∧ x.now ≠ [] ∧ (x.now.length : Int) = l + 1 ∧ runC x.now fm0 true = some F' := by
 have hok := write_okN up.ok jnN (max (sizeD D jnN) 0) (closeS kind number salt.toNat d)
 unfold layD
 rw [if_pos h1]
 obtain ⟨k, fs⟩ := D
 rcases hf with ⟨hf, rfl, rfl⟩ | ⟨x, hf, hne, hlen, hrun⟩
 · dsimp only at hf hr
   subst hf
   have e : max (sizeD ⟨k, []⟩ jnN) 0 = 0 := rfl
   rw [e] at hok ⊢
   rw [write_new jn_good up.down up.at0 find_nil h2 (by decide) (by show ((0 : Nat) : Int) < k.room; omega)] at hok ⊢
   refine ⟨rfl, ⟨hok, up.down, up.at0⟩, rfl, _, rfl, by simp, by simp, ?_⟩
   rw [decide_eq_true (rfl : (⟨k, []⟩ : DM).fs = [])] at h3
   simp only [runC, h3]
 · dsimp only at hf hr
   subst hf
   have hfind : findF [(jnN, x)] jnN = some x := by rw [find_cons, if_pos rfl]
   have e : max (sizeD ⟨k, [(jnN, x)]⟩ jnN) 0 = (x.now.length : Nat) := by
    unfold sizeD
    dsimp only
    rw [hfind]
    dsimp only
    omega
   rw [e] at hok ⊢
   have ht : total [(jnN, x)] = x.now.length := by simp [total]
   rw [write_up (i := ((x.now.length : Nat) : Int)) jn_good up.down up.at0 hfind (Int.natCast_nonneg _) h2 (Int.le_refl _) (fun _ => by rw [ht]; show ((x.now.length : Nat) : Int) < k.room; omega)] at hok ⊢
   rw [Int.toNat_natCast] at hok ⊢
   have hput : putF [(jnN, x)] jnN (writeF x x.now.length (closeS kind number salt.toNat d)) = [(jnN, writeF x x.now.length (closeS kind number salt.toNat d))] := put_cons_eq
   have hw : (writeF x x.now.length (closeS kind number salt.toNat d)).now = x.now ++ [some (closeS kind number salt.toNat d)] := by
    unfold writeF
    rw [if_pos rfl]
   refine ⟨rfl, ⟨hok, up.down, up.at0⟩, rfl, _, hput, by rw [hw]; simp, by rw [hw, List.length_append, List.length_singleton]; omega, ?_⟩
   rw [hw, runC_app hrun]
   have hd : decide ((⟨k, [(jnN, x)]⟩ : DM).fs = []) = false := by simp
   rw [hd] at h3
   have he : (true && x.now.isEmpty) = false := by
    cases hh : x.now with
    | nil => exact absurd hh hne
    | cons _ _ => rfl
   rw [he]
   simp only [runC, h3]
theorem JrR.start {D : DM} (up : UpD D n) (hfs : D.fs = []) (hr : 100 ≤ D.k.room) {p s : Int} (hp : 0 ≤ p ∧ p ≤ 4096) (hs : U64 s) : JrR ⟨p, s, [], 0, 0⟩ D [] 0 0 n :=
 ⟨up, hp, hs, Int.le_refl _, .inl ⟨hfs, rfl, rfl⟩, rfl, rfl, Nat.le_refl _, fun _ => rfl, fun q hq => (by cases hq), Int.le_refl _, hr⟩
theorem FileR.run (h : FileR J D.fs all sure) : ∃ F : FM, ((D.fs = [] ∧ F = fm0 ∧ (all.length : Int) + J.feet = 0) ∨ ∃ x, D.fs = [(jnN, x)] ∧ x.now ≠ [] ∧ (x.now.length : Int) = all.length + J.feet ∧ runC x.now fm0 true = some F) ∧
 F.pages = (if J.feet = 0 then 0 else J.pages) ∧ F.feet = J.feet ∧ F.sure = all.take sure ∧ F.loose = all.drop sure ∧ (D.fs ≠ [] → F.salt = J.salt) := by
 rcases h with ⟨h1, rfl, h3⟩ | ⟨x, h1, h2, h3, h4⟩
 · exact ⟨fm0, .inl ⟨h1, rfl, by rw [h3]; rfl⟩, by rw [if_pos h3]; rfl, h3.symm, by simp [fm0], by simp [fm0], fun h => absurd h1 h⟩
 · exact ⟨_, .inr ⟨x, h1, h2, h3, h4⟩, rfl, rfl, rfl, rfl, fun _ => rfl⟩
theorem note_step (h : JrR J D all sure c n) (hc : c < 100) {q : Int} (hq : 0 ≤ q ∧ q < J.pages) {d : ByteArray} (hd : d.size = 232) :
 (noteJ J D q d).1 = 0 ∧ q ∈ (noteJ J D q d).2.1.noted ∧ (noteJ J D q d).2.1.pages = J.pages ∧
 (q ∈ J.noted → JrR (noteJ J D q d).2.1 (noteJ J D q d).2.2 all sure (c + 1) (n + 1)) ∧ (q ∉ J.noted → JrR (noteJ J D q d).2.1 (noteJ J D q d).2.2 (all ++ [(q, d)]) sure (c + 1) (n + 1)) := by
 have hno : ¬ (q < 0 ∨ J.pages ≤ q ∨ d.size ≠ 232) := by omega
 unfold noteJ
 rw [if_neg hno]
 by_cases hm : q ∈ J.noted
 · rw [if_pos hm]
   refine ⟨rfl, hm, rfl, fun _ => ⟨h.up.mono (by omega), h.pages, h.salt, h.feet, h.file, h.noted, h.loose, h.sle, h.zero, h.ins, by have := h.few; show (all.length : Int) + J.feet ≤ _; omega, h.room⟩, fun hh => absurd hm hh⟩
 · rw [if_neg hm]
   obtain ⟨F, hF, hp, hf, hsu, hlo, hsa⟩ := h.file.run
   have hb : decide (D.fs = []) = true ∨ J.salt = F.salt := by
    by_cases hh : D.fs = []
    · exact .inl (by rw [decide_eq_true hh])
    · exact .inr (hsa hh).symm
   obtain ⟨s1, s2, s3⟩ := step_rec (F := F) (n := q) (salt := J.salt) (d := d) ⟨hq.1, by have := h.pages.2; omega⟩ hd h.salt hb
   obtain ⟨l1, l2, l3, x, l4, l5, l6, l7⟩ := lay_step h.up h.room (by have := h.few; omega) hF s1 s2 s3
   rw [if_pos l1]
   refine ⟨rfl, by simp, rfl, fun hh => absurd hh hm, fun _ => ⟨l2, h.pages, h.salt, h.feet, .inr ⟨x, l4, l5, ?_, ?_⟩, ?_, ?_, ?_, h.zero, ?_, ?_, ?_⟩⟩
   · rw [l6, List.length_append, List.length_singleton]; show _ = _ + J.feet; omega
   · rw [l7]
     unfold runAt
     dsimp only
     rw [hp, hf, hsu, hlo, List.take_append_of_le_length h.sle, List.drop_append_of_le_length h.sle]
   · show J.noted ++ [q] = _
     rw [h.noted, List.map_append]; rfl
   · show J.loose + 1 = _
     have := h.sle
     rw [h.loose, List.length_append, List.length_singleton]; omega
   · have := h.sle; rw [List.length_append]; omega
   · intro r hr
     rcases List.mem_append.1 hr with hr | hr
     · exact h.ins r hr
     · rcases List.mem_singleton.1 hr with rfl
       exact ⟨hq, hd⟩
   · have := h.few; rw [List.length_append, List.length_singleton]; show _ + J.feet ≤ _; omega
   · dsimp only; rw [l3]; exact h.room
theorem sync_one {x : Fl} (up : UpD D n) (hf : D.fs = [(jnN, x)]) : (syncD D jnN).1 = 0 ∧ UpD (syncD D jnN).2 (n + 1) ∧ (syncD D jnN).2.k.room = D.k.room ∧ (syncD D jnN).2.fs = [(jnN, syncF x)] := by
 have hok := sync_okN up.ok jnN
 obtain ⟨k, fs⟩ := D
 dsimp only at hf
 subst hf
 have hfind : findF [(jnN, x)] jnN = some x := by rw [find_cons, if_pos rfl]
 rw [sync_up jn_good up.down up.at0 hfind] at hok ⊢
 exact ⟨rfl, ⟨hok, up.down, up.at0⟩, rfl, by show putF [(jnN, x)] jnN (syncF x) = _; exact put_one⟩
theorem seal_step (h : JrR J D all sure c n) (hc : c < 100) :
 (sealJ J D).1 = 0 ∧ 0 < (sealJ J D).2.1.feet ∧ (sealJ J D).2.1.pages = J.pages ∧ (sealJ J D).2.1.noted = J.noted ∧ JrR (sealJ J D).2.1 (sealJ J D).2.2 all all.length (c + 1) (n + 3) := by
 have hfe := h.feet
 have hlo0 : 0 ≤ J.loose := by rw [h.loose]; omega
 unfold sealJ
 by_cases hz : 0 < J.feet ∧ J.loose = 0
 · rw [if_pos hz]
   have hs : sure = all.length := by have h1 := hz.2; rw [h.loose] at h1; have := h.sle; omega
   subst hs
   exact ⟨rfl, hz.1, rfl, rfl, h.up.mono (by omega), h.pages, h.salt, h.feet, h.file, h.noted, by rw [hz.2]; simp, Nat.le_refl _, h.zero, h.ins, by have := h.few; show (all.length : Int) + J.feet ≤ _; omega, h.room⟩
 · rw [if_neg hz]
   obtain ⟨F, hF, hp, hf, hsu, hlo, hsa⟩ := h.file.run
   have hpre : (presyncJ J D).1 = 0 ∧ UpD (presyncJ J D).2 (n + 1) ∧ (presyncJ J D).2.k.room = D.k.room ∧
    (((presyncJ J D).2.fs = [] ∧ F = fm0 ∧ (all.length : Int) + J.feet = 0) ∨ ∃ x, (presyncJ J D).2.fs = [(jnN, x)] ∧ x.now ≠ [] ∧ (x.now.length : Int) = all.length + J.feet ∧ runC x.now fm0 true = some F) ∧ ((presyncJ J D).2.fs = [] ↔ D.fs = []) := by
    unfold presyncJ
    split
    · rename_i hl
      rcases hF with ⟨h1, h2, _⟩ | ⟨x, h1, h2, h3, h4⟩
      · exfalso
        rcases h.file with ⟨_, h5, _⟩ | ⟨x, h5, _⟩
        · rw [h.loose, h5] at hl; simp at hl
        · rw [h1] at h5; cases h5
      · obtain ⟨s1, s2, s3, s4⟩ := sync_one h.up h1
        exact ⟨s1, s2, s3, .inr ⟨syncF x, s4, h2, h3, h4⟩, by rw [s4, h1]; simp⟩
    · exact ⟨rfl, h.up.mono (by omega), rfl, hF, Iff.rfl⟩
   obtain ⟨p1, p2, p3, p4, p5⟩ := hpre
   dsimp only
   rw [if_neg (by rw [p1]; simp)]
   have hb : decide ((presyncJ J D).2.fs = []) = true ∨ J.salt = F.salt := by
    by_cases hh : D.fs = []
    · exact .inl (by rw [decide_eq_true (p5.2 hh)])
    · exact .inr (hsa hh).symm
   have hlen : F.loose.length = all.length - sure := by rw [hlo, List.length_drop]
   have hlz : J.loose = (F.loose.length : Nat) := by rw [h.loose, hlen]
   have hfew := h.few
   obtain ⟨s1, s2, s3⟩ := step_foot (F := F) (p := J.pages) (salt := J.salt) h.pages (by
    rw [hf, hp]
    by_cases h0 : J.feet = 0
    · exact .inl h0
    · rw [if_neg h0]; exact .inr rfl) (by omega) h.salt hb (fun q hq => by rw [hlo] at hq; exact (h.ins q (List.mem_of_mem_drop hq)).1.2)
   rw [← hlz, hf] at s1 s2 s3
   obtain ⟨l1, l2, l3, x, l4, l5, l6, l7⟩ := lay_step p2 (by rw [p3]; exact h.room) (by omega) p4 s1 s2 s3
   rw [if_neg (by rw [l1]; simp)]
   obtain ⟨t1, t2, t3, t4⟩ := sync_one l2 l4
   rw [if_neg (by rw [t1]; simp)]
   refine ⟨rfl, by show 0 < J.feet + 1; omega, rfl, rfl, t2.mono (by omega), h.pages, h.salt, by show 0 ≤ J.feet + 1; omega, .inr ⟨syncF x, t4, l5, by show (x.now.length : Int) = all.length + (J.feet + 1); omega, ?_⟩, h.noted, by simp, Nat.le_refl _, fun h0 => by exfalso; have : J.feet + 1 = 0 := h0; omega, h.ins, by show (all.length : Int) + (J.feet + 1) ≤ _; omega, by rw [t3, l3, p3]; exact h.room⟩
   show runC x.now fm0 true = _
   rw [l7]
   unfold runAt
   dsimp only
   rw [if_neg (by omega), hsu, hlo, List.take_append_drop, List.take_length, List.drop_length]
theorem find_step (h : JrR J D all sure c n) : ∃ F : FM, (findJ D).1 = (0, F) ∧ (findJ D).2.fs = D.fs ∧ UpD (findJ D).2 (n + c) ∧ F.pages = (if J.feet = 0 then 0 else J.pages) ∧ F.feet = J.feet ∧ F.sure = all.take sure := by
 obtain ⟨F, hF, hp, hf, hsu, hlo, hsa⟩ := h.file.run
 refine ⟨F, ?_⟩
 unfold findJ
 rcases hF with ⟨h1, h2, _⟩ | ⟨x, h1, h2, h3, h4⟩
 · have e : (max (sizeD D jnN) 0).toNat = 0 := by unfold sizeD; rw [h1]; rfl
   rw [e, h2]
   rw [h2] at hp hf hsu
   exact ⟨rfl, rfl, h.up.mono (by omega), hp, hf, hsu⟩
 · have hfind : findF D.fs jnN = some x := by rw [h1, find_cons, if_pos rfl]
   have e : (max (sizeD D jnN) 0).toNat = x.now.length := by unfold sizeD; rw [hfind]; dsimp only; omega
   rw [e]
   obtain ⟨r1, r2, r3⟩ := find_run x.now.length 0 (F := fm0) (F' := F) h.up hfind (by omega) (by rw [List.drop_zero]; exact h4)
   exact ⟨r1, r2, r3.mono (by have := h.few; omega), hp, hf, hsu⟩
theorem JrR.size (h : JrR J D all sure c n) : sizeD D jnN = if D.fs = [] then -1 else (all.length : Int) + J.feet := by
 rcases h.file with ⟨h1, h2, h3⟩ | ⟨x, h1, h2, h3, h4⟩
 · rw [if_pos h1]; unfold sizeD; rw [h1]; rfl
 · rw [if_neg (by rw [h1]; simp)]
   unfold sizeD
   rw [h1, find_cons, if_pos rfl]
   exact h3
end
end Go.Proofs.YtelolcagncgfpaaGreat
namespace Go.Proofs.YtelolcagncgfpaaGreat
open Go.RowKit
set_option linter.unusedSimpArgs false
set_option linter.unusedVariables false
def fs2 (m j : Option Fl) : Fs := match m, j with | none, none => [] | some x, none => [(mainN, x)] | none, some y => [(jnN, y)] | some x, some y => [(mainN, x), (jnN, y)]
theorem main_jn : strLt mainN jnN = true := by rw [strLt_iff]; decide
theorem main_ne : mainN ≠ jnN := by decide
theorem jn_ne : jnN ≠ mainN := by decide
theorem sorted2 (m j : Option Fl) : Sorted (fs2 m j) := by
 cases m <;> cases j <;> simp [fs2, Sorted, main_jn]
theorem find2_main (m j : Option Fl) : findF (fs2 m j) mainN = m := by
 cases m <;> cases j <;> simp only [fs2, find_cons, find_nil, if_pos, if_neg jn_ne]
theorem find2_jn (m j : Option Fl) : findF (fs2 m j) jnN = j := by
 cases m <;> cases j <;> simp only [fs2, find_cons, find_nil, if_pos, if_neg main_ne]
theorem put2_main (m j : Option Fl) (x : Fl) : putF (fs2 m j) mainN x = fs2 (some x) j := by
 cases m <;> cases j <;> simp only [fs2, put_cons_eq, put_nil, put_cons_lt main_jn]
theorem put2_jn (m j : Option Fl) (y : Fl) : putF (fs2 m j) jnN y = fs2 m (some y) := by
 cases m <;> cases j <;> simp only [fs2, put_cons_eq, put_nil, put_cons_gt main_jn]
theorem del2_jn (m j : Option Fl) : delF (fs2 m j) jnN = fs2 m none := by
 unfold delF
 cases m <;> cases j <;> simp [fs2, main_ne]
theorem len2 (m j : Option Fl) : (fs2 m j).length ≤ 2 := by cases m <;> cases j <;> simp [fs2]
def lenO (o : Option Fl) : Nat := match o with | none => 0 | some x => x.now.length
theorem total2 (m j : Option Fl) : total (fs2 m j) = lenO m + lenO j := by
 cases m <;> cases j <;> simp [fs2, total, lenO]
def sizO (o : Option Fl) : Int := match o with | none => -1 | some x => x.now.length
theorem size2_main (k : Dk) (m j : Option Fl) : sizeD ⟨k, fs2 m j⟩ mainN = sizO m := by unfold sizeD; rw [find2_main]; rfl
theorem size2_jn (k : Dk) (m j : Option Fl) : sizeD ⟨k, fs2 m j⟩ jnN = sizO j := by unfold sizeD; rw [find2_jn]; rfl
theorem max_siz (o : Option Fl) : max (sizO o) 0 = (lenO o : Nat) := by
 cases o with
 | none => show max (-1 : Int) 0 = ((0 : Nat) : Int); decide
 | some x => exact Int.max_eq_left (Int.natCast_nonneg _)
def setO (o : Option Fl) (i : Nat) (d : ByteArray) : Fl := match o with | none => ⟨[some d], [none], [true], false⟩ | some x => writeF x i d
theorem setO_len (o : Option Fl) {i : Nat} (hi : i ≤ lenO o) (d : ByteArray) : lenO o ≤ (setO o i d).now.length ∧ (setO o i d).now.length ≤ lenO o + 1 := by
 cases o with
 | none => exact ⟨Nat.zero_le _, Nat.le_refl _⟩
 | some x =>
  show x.now.length ≤ (writeF x i d).now.length ∧ (writeF x i d).now.length ≤ x.now.length + 1
  unfold writeF
  split
  · dsimp only; rw [List.length_append, List.length_singleton]; omega
  · dsimp only; rw [List.length_set]; omega
def upK (k : Dk) : Dk := { k with ops := k.ops + 1 }
section
variable {k : Dk} (h1 : k.down = false) (h2 : k.at' = 0)
include h1 h2
theorem write2_main (m j : Option Fl) {i : Nat} {d : ByteArray} (hd : d.size = 256) (hi : i ≤ lenO m) (hr : ((lenO m + lenO j : Nat) : Int) < k.room) :
 writeD ⟨k, fs2 m j⟩ mainN (i : Nat) d = (0, ⟨upK k, fs2 (some (setO m i d)) j⟩) := by
 cases m with
 | none =>
  simp only [lenO] at hi
  obtain rfl : i = 0 := by omega
  have hl : (fs2 none j).length < 8 := by have := len2 none j; omega
  have := write_new (k := k) (fs := fs2 none j) (s := mainN) main_good h1 h2 (find2_main none j) hd hl (by rw [total2]; exact hr)
  rw [put2_main] at this
  exact this
 | some x =>
  have := write_up (k := k) (fs := fs2 (some x) j) (s := mainN) (i := ((i : Nat) : Int)) main_good h1 h2 (find2_main (some x) j) (Int.natCast_nonneg _) hd (by simp only [lenO] at hi; omega) (fun _ => by rw [total2]; exact hr)
  rw [put2_main, Int.toNat_natCast] at this
  exact this
theorem write2_jn (m j : Option Fl) {d : ByteArray} (hd : d.size = 256) (hr : ((lenO m + lenO j : Nat) : Int) < k.room) :
 writeD ⟨k, fs2 m j⟩ jnN ((lenO j : Nat) : Int) d = (0, ⟨upK k, fs2 m (some (setO j (lenO j) d))⟩) := by
 cases j with
 | none =>
  have hl : (fs2 m none).length < 8 := by have := len2 m none; omega
  have := write_new (k := k) (fs := fs2 m none) (s := jnN) jn_good h1 h2 (find2_jn m none) hd hl (by rw [total2]; exact hr)
  rw [put2_jn] at this
  exact this
 | some x =>
  have := write_up (k := k) (fs := fs2 m (some x)) (s := jnN) (i := ((x.now.length : Nat) : Int)) jn_good h1 h2 (find2_jn m (some x)) (Int.natCast_nonneg _) hd (Int.le_refl _) (fun _ => by rw [total2]; exact hr)
  rw [put2_jn, Int.toNat_natCast] at this
  exact this
theorem sync2_main (x : Fl) (j : Option Fl) : syncD ⟨k, fs2 (some x) j⟩ mainN = (0, ⟨upK k, fs2 (some (syncF x)) j⟩) := by
 have := sync_up (k := k) (fs := fs2 (some x) j) (s := mainN) main_good h1 h2 (find2_main _ _)
 rw [put2_main] at this
 exact this
theorem sync2_jn (m : Option Fl) (y : Fl) : syncD ⟨k, fs2 m (some y)⟩ jnN = (0, ⟨upK k, fs2 m (some (syncF y))⟩) := by
 have := sync_up (k := k) (fs := fs2 m (some y)) (s := jnN) jn_good h1 h2 (find2_jn _ _)
 rw [put2_jn] at this
 exact this
theorem drop2_jn (m : Option Fl) (y : Fl) : dropD ⟨k, fs2 m (some y)⟩ jnN = (0, ⟨upK k, fs2 m none⟩) := by
 unfold dropD
 rw [found_up jn_good h1 h2 (find2_jn _ _)]
 dsimp only
 rw [if_neg (by simp), del2_jn]
 rfl
end
noncomputable def secM (n b : Int) : ByteArray := closeS 1 n 0 (pgS 232 b)
theorem secM_size {n : Int} (h : 0 ≤ n ∧ n < 4294967296) (b : Int) : (secM n b).size = 256 := by
 have hok : sealOk 1 n (bytesOf (pgS 232 b)) = true := sealOk_iff.2 ⟨by omega, h, by rw [bytesOf_length, pgS_size]⟩
 unfold secM closeS
 rw [if_pos hok, strOf_size, sealL_length (by rw [bytesOf_length, pgS_size])]
abbrev ChT := Int × Int × Bool
def pickN (y : ChT) (p : Int) : Int := (IntKind.u64.wrap y.1).tmod (p + 3)
open Classical in
noncomputable def noteC (J : JM) (D : DM) (p n : Int) : Int × JM × DM := if n < p ∧ n ∉ J.noted then noteJ J D n (pgS 232 n) else (0, J, D)
open Classical in
noncomputable def sealC (J0 J : JM) (D : DM) (p n : Int) (b : Bool) : Int × JM × DM := if (n < p ∧ n ∉ J0.noted) ∨ b = false then sealJ J D else (0, J, D)
noncomputable def changedL (p : Int) : List ChT → JM → DM → Bool → Int × DM
 | [], J, D, b => (0, D)
 | y :: L, J, D, b =>
  let n := pickN y p
  let a := noteC J D p n
  if a.1 ≠ 0 then (a.1, a.2.2)
  else
   let s := sealC J a.2.1 a.2.2 p n b
   if s.1 ≠ 0 then (s.1, s.2.2)
   else if max (sizeD s.2.2 mainN) 0 < n then changedL p L s.2.1 s.2.2 true
   else
    let w := writeD s.2.2 mainN n (secM n y.2.1)
    if w.1 ≠ 0 then (w.1, w.2)
    else if y.2.2 = true then
     let t := syncD w.2 mainN
     if t.1 ≠ 0 then (t.1, t.2) else changedL p L s.2.1 t.2 true
    else changedL p L s.2.1 w.2 true
noncomputable def changedD (p : Int) (L : List ChT) (D : DM) : Int × DM := changedL p (L.take 20) ⟨p, 99, [], 0, 0⟩ D false
structure JB (J : JM) (p s : Int) (c : Nat) : Prop where
 pages : J.pages = p
 salt : J.salt = s
 loose : 0 ≤ J.loose ∧ J.loose ≤ c
 feet : 0 ≤ J.feet ∧ J.feet ≤ c
theorem JB.mono {J : JM} {p s : Int} {c c' : Nat} (h : JB J p s c) (hc : c ≤ c') : JB J p s c' := ⟨h.pages, h.salt, by have := h.loose; omega, by have := h.feet; omega⟩
theorem note_JB {J : JM} {p s : Int} {c : Nat} (h : JB J p s c) (D : DM) (n : Int) (d : ByteArray) : JB (noteJ J D n d).2.1 p s (c + 1) := by
 have hl := h.loose
 unfold noteJ
 split
 · exact h.mono (by omega)
 · split
   · exact h.mono (by omega)
   · split
     · exact ⟨h.pages, h.salt, by show 0 ≤ J.loose + 1 ∧ J.loose + 1 ≤ _; omega, by have := h.feet; show 0 ≤ J.feet ∧ J.feet ≤ _; omega⟩
     · exact h.mono (by omega)
theorem seal_JB {J : JM} {p s : Int} {c : Nat} (h : JB J p s c) (D : DM) : JB (sealJ J D).2.1 p s (c + 1) := by
 have hl := h.loose
 have hf := h.feet
 unfold sealJ
 split
 · exact h.mono (by omega)
 · dsimp only
   split
   · exact h.mono (by omega)
   · split
     · exact h.mono (by omega)
     · split
       · exact h.mono (by omega)
       · exact ⟨h.pages, h.salt, by show (0 : Int) ≤ 0 ∧ (0 : Int) ≤ _; omega, by show 0 ≤ J.feet + 1 ∧ J.feet + 1 ≤ _; omega⟩
theorem lay_okN {D : DM} {n : Int} (h : D.OkN n) (salt kind number : Int) (data : ByteArray) : (layD salt D kind number data).2.OkN (n + 1) := by
 unfold layD
 split
 · exact write_okN h _ _ _
 · exact h.mono (by omega)
theorem note_okN {D : DM} {m : Int} (h : D.OkN m) (J : JM) (n : Int) (d : ByteArray) : (noteJ J D n d).2.2.OkN (m + 1) := by
 unfold noteJ
 split
 · exact h.mono (by omega)
 · split
   · exact h.mono (by omega)
   · split <;> exact lay_okN h _ _ _ _
theorem seal_okN {D : DM} {m : Int} (h : D.OkN m) (J : JM) : (sealJ J D).2.2.OkN (m + 3) := by
 have hp : (presyncJ J D).2.OkN (m + 1) := by
  unfold presyncJ
  split
  · exact sync_okN h _
  · exact h.mono (by omega)
 unfold sealJ
 split
 · exact h.mono (by omega)
 · dsimp only
   split
   · exact hp.mono (by omega)
   · have hl := lay_okN hp J.salt 3 J.loose (footS J.pages J.feet)
     split
     · exact hl.mono (by omega)
     · have ht := sync_okN hl jnN
       split <;> exact ht.mono (by omega)
end Go.Proofs.YtelolcagncgfpaaGreat
