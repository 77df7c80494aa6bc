/- The journal as plain data: what is noted, sealed, found; no program in sight. -/
import Derived.Test.YtncnfmpclgkogaaSealWalk
import Derived.Test.YtncnfmpclgkogaaDiskUp
namespace Go.Proofs.Ytncnfmpclgkogaa
open Go.RowKit
set_option linter.unusedSimpArgs false
set_option linter.unusedVariables false
abbrev jnN : ByteArray := ⟨#[106, 111, 117, 114, 110, 97, 108]⟩
abbrev mainN : ByteArray := ⟨#[100, 97, 116, 97]⟩
abbrev Pg := Int × ByteArray
structure JM where
  pages : Int
  salt : Int
  noted : List Int
  loose : Int
  feet : Int
def footS (pages feet : Int) : ByteArray := strOf (fixedL pages.toNat 4 ++ fixedL feet.toNat 4 ++ List.replicate 224 0)
theorem footS_size (p f : Int) : (footS p f).size = 232 := by unfold footS; rw [strOf_size]; simp only [List.length_append, fixedL_length, List.length_replicate]
noncomputable def layD (salt : Int) (D : DM) (kind number : Int) (data : ByteArray) : Int × DM :=
  if closeE kind number data = 0 then writeD D jnN (max (sizeD D jnN) 0) (closeS kind number salt.toNat data) else (closeE kind number data, D)
noncomputable def noteJ (J : JM) (D : DM) (n : Int) (data : ByteArray) : Int × JM × DM :=
  if n < 0 ∨ J.pages ≤ n ∨ data.size ≠ 232 then (1, J, D)
  else if n ∈ J.noted then (0, J, D)
  else if (layD J.salt D 2 n data).1 = 0 then (0, { J with noted := J.noted ++ [n], loose := J.loose + 1 }, (layD J.salt D 2 n data).2)
  else ((layD J.salt D 2 n data).1, J, (layD J.salt D 2 n data).2)
noncomputable def presyncJ (J : JM) (D : DM) : Int × DM := if 0 < J.loose then syncD D jnN else (0, D)
noncomputable def sealJ (J : JM) (D : DM) : Int × JM × DM :=
  if 0 < J.feet ∧ J.loose = 0 then (0, J, D)
  else
    let s := presyncJ J D
    if s.1 ≠ 0 then (s.1, J, s.2)
    else
      let r := layD J.salt s.2 3 J.loose (footS J.pages J.feet)
      if r.1 ≠ 0 then (r.1, J, r.2)
      else
        let t := syncD r.2 jnN
        if t.1 ≠ 0 then (t.1, J, t.2) else (0, { J with feet := J.feet + 1, loose := 0 }, t.2)
noncomputable def gonJ (D : DM) : Int × DM := if sizeD D jnN < 0 then (0, D) else dropD D jnN
/-! What is found. -/
structure FM where
  pages : Int
  feet : Int
  salt : Int
  sure : List Pg
  loose : List Pg
def fm0 : FM := ⟨0, 0, 0, [], []⟩
/-- A sector more; none: it can't stand there. -/
noncomputable def addF (F : FM) (k n salt : Int) (d : ByteArray) (first : Bool) : Option FM := by
  classical exact
    if first = false ∧ salt ≠ F.salt then none
    else if k = 2 then if n < 4096 then some { F with salt := salt, loose := F.loose ++ [(n, d)] } else none
    else if k = 3 then
      let m : Int := (numOf ((bytesOf d).take 4) : Nat)
      if 4096 < m ∨ (0 < F.feet ∧ m ≠ F.pages) ∨ d ≠ footS m F.feet ∨ n ≠ F.loose.length ∨ (∃ p ∈ F.loose, m ≤ p.1) then none
      else some ⟨m, F.feet + 1, salt, F.sure ++ F.loose, []⟩
    else none
/-- A sector as it is read. -/
noncomputable def stepF (F : FM) (s : ByteArray) (first : Bool) : Option FM :=
  if openE s = 0 then addF F (kindAt (bytesOf s) : Nat) (numberAt (bytesOf s) : Nat) (saltAt (bytesOf s) : Nat) (s.extract 0 232) first else none
noncomputable def findL : Nat → Nat → FM → DM → (Int × FM) × DM
  | 0, _, F, D => ((0, F), D)
  | m + 1, i, F, D =>
    let r := readD D jnN (i : Nat)
    if r.1.2 ≠ 0 ∧ r.1.2 ≠ 13 then ((r.1.2, F), r.2)
    else match stepF F r.1.1 (decide (i = 0)) with
      | none => ((0, F), r.2)
      | some F' => findL m (i + 1) F' r.2
noncomputable def findJ (D : DM) : (Int × FM) × DM := findL (max (sizeD D jnN) 0).toNat 0 fm0 D
/-- The sectors of a journal that counts as a whole. -/
noncomputable def runC : List Cv → FM → Bool → Option FM
  | [], F, _ => some F
  | none :: _, _, _ => none
  | some d :: r, F, b => match stepF F d b with | none => none | some F' => runC r F' false
theorem runC_app : ∀ {l r : List Cv} {F F' : FM} {b : Bool}, runC l F b = some F' → runC (l ++ r) F b = runC r F' (b && l.isEmpty)
  | [], r, F, F', b, h => by cases h; simp
  | none :: l, r, F, F', b, h => by cases h
  | some d :: l, r, F, F', b, h => by
    simp only [runC, List.cons_append] at h ⊢
    cases hs : stepF F d b with
    | none => rw [hs] at h; cases h
    | some F2 =>
      rw [hs] at h
      dsimp only at h ⊢
      rw [runC_app h]
      simp
/-- A disk on which nothing is amiss: its power is on, nothing is armed. -/
structure UpD (D : DM) (n : Int) : Prop where
  ok : D.OkN n
  down : D.k.down = false
  at0 : D.k.at' = 0
theorem UpD.mono {D : DM} {n m : Int} (h : UpD D n) (hn : n ≤ m) : UpD D m := ⟨h.ok.mono hn, h.down, h.at0⟩
theorem jn_good : goodName jnN = true := by decide
theorem main_good : goodName mainN = true := by decide
theorem UpD.read {D : DM} {n : Int} (h : UpD D n) {s : ByteArray} (hs : goodName s = true) {x : Fl} (hx : findF D.fs s = some x) (i : Int) : readD D s i = (readF x i, (readD D s i).2) ∧ (readD D s i).2.fs = D.fs ∧ UpD (readD D s i).2 (n + 1) := by
  have h1 := read_okN h.ok s i
  obtain ⟨k, fs⟩ := D
  rw [read_up hs h.down h.at0 hx] at h1 ⊢
  exact ⟨rfl, rfl, h1, h.down, h.at0⟩
/-- All of a journal is found, where nothing is amiss. -/
theorem find_run {x : Fl} : ∀ (m i : Nat) {F F' : FM} {D : DM} {n : Int}, UpD D n → findF D.fs jnN = some x → i + m = x.now.length → runC (x.now.drop i) F (decide (i = 0)) = some F' →
    (findL m i F D).1 = (0, F') ∧ (findL m i F D).2.fs = D.fs ∧ UpD (findL m i F D).2 (n + m)
  | 0, i, F, F', D, n, h, hx, hi, hr => by
    rw [List.drop_of_length_le (by omega)] at hr
    cases hr
    exact ⟨rfl, rfl, h.mono (by omega)⟩
  | m + 1, i, F, F', D, n, h, hx, hi, hr => by
    have hil : i < x.now.length := by omega
    obtain ⟨h1, h2, h3⟩ := h.read jn_good hx (i : Nat)
    have hd : x.now.drop i = x.now[i] :: x.now.drop (i + 1) := List.drop_eq_getElem_cons hil
    rw [hd] at hr
    have hv : readF x (i : Nat) = readC (some x.now[i]) := by
      unfold readF
      rw [if_neg (by omega), Int.toNat_natCast, List.getElem?_eq_getElem hil]
    cases hc : x.now[i] with
    | none => rw [hc] at hr; cases hr
    | some d =>
      rw [hc] at hr hv
      simp only [runC] at hr
      have e1 : (readD D jnN (i : Nat)).1 = (d, 0) := by rw [h1, hv]; rfl
      unfold findL
      dsimp only
      rw [e1]
      dsimp only
      rw [if_neg (by simp)]
      cases hs : stepF F d (decide (i = 0)) with
      | none => rw [hs] at hr; cases hr
      | some F2 =>
        rw [hs] at hr
        dsimp only at hr ⊢
        have := find_run m (i + 1) (F := F2) (F' := F') h3 (by rw [h2]; exact hx) (by omega) (by rw [show decide (i + 1 = 0) = false by simp]; exact hr)
        refine ⟨this.1, this.2.1.trans h2, this.2.2.mono (by omega)⟩
/-! Sectors that were laid. -/
theorem fix4_take {p : Int} (f : Int) (h : 0 ≤ p ∧ p < 4294967296) : (numOf ((bytesOf (footS p f)).take 4) : Int) = p := by
  unfold footS
  rw [bytesOf_strOf, List.append_assoc, List.take_left' (fixedL_length _ _), fixed4 (by omega)]
  omega
theorem step_rec {F : FM} {n salt : Int} {d : ByteArray} {b : Bool} (hn : 0 ≤ n ∧ n < 4096) (hd : d.size = 232) (hs : U64 salt) (hb : b = true ∨ salt = F.salt) :
    closeE 2 n d = 0 ∧ (closeS 2 n salt.toNat d).size = 256 ∧ stepF F (closeS 2 n salt.toNat d) b = some { F with salt := salt, loose := F.loose ++ [(n, d)] } := by
  have hok : sealOk 2 n (bytesOf d) = true := sealOk_iff.2 ⟨by omega, by omega, by rw [bytesOf_length]; exact hd⟩
  have hlt : salt.toNat < 18446744073709551616 := by have := hs.2; omega
  obtain ⟨h1, h2, h3, h4, h5⟩ := seal_open hok hlt
  have e : closeS 2 n salt.toNat d = strOf (sealL 2 n salt.toNat (bytesOf d)) := by unfold closeS; rw [if_pos hok]
  refine ⟨by unfold closeE; rw [if_pos hok], by rw [e, strOf_size, sealL_length (by rw [bytesOf_length]; exact hd)], ?_⟩
  have hx : (closeS 2 n salt.toNat d).extract 0 232 = d := by
    rw [← bytesOf_inj, bytesOf_extract, List.drop_zero, e, bytesOf_strOf, h2]
  unfold stepF
  rw [if_pos (by unfold openE; rw [e, bytesOf_strOf, if_pos h1]), hx, e, bytesOf_strOf, h3, h4, h5]
  unfold addF
  have hsalt : ((salt.toNat : Nat) : Int) = salt := by have := hs.1; omega
  rw [hsalt, if_neg (by rintro ⟨h, h'⟩; rcases hb with hb | hb; · rw [hb] at h; cases h
                        · exact h' hb), if_pos rfl, if_pos hn.2]
theorem step_foot {F : FM} {p salt : Int} {b : Bool} (hp : 0 ≤ p ∧ p ≤ 4096) (hf : F.feet = 0 ∨ F.pages = p) (hl : F.loose.length < 4294967296) (hs : U64 salt) (hb : b = true ∨ salt = F.salt) (ha : ∀ q ∈ F.loose, q.1 < p) :
    closeE 3 (F.loose.length : Nat) (footS p F.feet) = 0 ∧ (closeS 3 (F.loose.length : Nat) salt.toNat (footS p F.feet)).size = 256 ∧
    stepF F (closeS 3 (F.loose.length : Nat) salt.toNat (footS p F.feet)) b = some ⟨p, F.feet + 1, salt, F.sure ++ F.loose, []⟩ := by
  obtain ⟨d, hd⟩ : ∃ d, d = footS p F.feet := ⟨_, rfl⟩
  have hsz : d.size = 232 := by rw [hd, footS_size]
  have htk : ((numOf ((bytesOf d).take 4) : Nat) : Int) = p := by rw [hd]; exact fix4_take _ (by omega)
  rw [← hd]
  have hok : sealOk 3 (F.loose.length : Nat) (bytesOf d) = true := sealOk_iff.2 ⟨by omega, by omega, by rw [bytesOf_length]; exact hsz⟩
  have hlt : salt.toNat < 18446744073709551616 := by have := hs.2; omega
  obtain ⟨h1, h2, h3, h4, h5⟩ := seal_open hok hlt
  have e : closeS 3 (F.loose.length : Nat) salt.toNat d = strOf (sealL 3 (F.loose.length : Nat) salt.toNat (bytesOf d)) := by unfold closeS; rw [if_pos hok]
  refine ⟨by unfold closeE; rw [if_pos hok], by rw [e, strOf_size, sealL_length (by rw [bytesOf_length]; exact hsz)], ?_⟩
  have hx : (closeS 3 (F.loose.length : Nat) salt.toNat d).extract 0 232 = d := by
    rw [← bytesOf_inj, bytesOf_extract, List.drop_zero, e, bytesOf_strOf, h2]
  unfold stepF
  rw [if_pos (by unfold openE; rw [e, bytesOf_strOf, if_pos h1]), hx, e, bytesOf_strOf, h3, h4, h5]
  have hsalt : ((salt.toNat : Nat) : Int) = salt := by have := hs.1; omega
  unfold addF
  dsimp only
  rw [hsalt, if_neg (by rintro ⟨h, h'⟩; rcases hb with hb | hb; · rw [hb] at h; cases h
                        · exact h' hb), if_neg (by decide), if_pos rfl, htk, if_neg]
  rintro (h | ⟨h, h'⟩ | h | h | ⟨q, hq, h⟩)
  · omega
  · rcases hf with hf | hf
    · omega
    · exact h' hf.symm
  · exact h hd
  · exact h rfl
  · have := ha q hq; omega
end Go.Proofs.Ytncnfmpclgkogaa
