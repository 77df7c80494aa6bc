/- A generator of conditions for a walk, part 3: conversions, memory that is read, addresses, parts of texts, slices, structs. No program in sight. -/
import Derived.Test.YtelolcagncgfpaaGreatEngB
namespace Go.Proofs.YtelolcagncgfpaaGreat
open Go.RowKit
set_option linter.unusedSimpArgs false
set_option linter.unusedVariables false
def byteV' (b : UInt8) : Value := .int .u8 (b.toNat : Nat)
def forceV (u : Value) (K : Value → Prop) : Prop :=
 match u with
 | .bool b => K (.bool b)
 | .int k n => K (.int k n)
 | .string s => K (.string s)
 | .pointer a => K (.pointer a)
 | .slice a n k => K (.slice a n k)
 | .map r => K (.map r)
 | .func f x y => K (.func f x y)
 | .nilFunc => K .nilFunc
 | .iface t v => K (.iface t v)
 | .nilIface => K .nilIface
 | _ => False
theorem forceV_ok {u : Value} {K : Value → Prop} (h : forceV u K) : K u ∧ noTup u = true ∧ u.oneCell' = true := by
 cases u <;> first | exact h.elim | exact ⟨h, rfl, rfl⟩
def forceL : List Value → (List Value → Prop) → Prop
 | [], K => K []
 | u :: l, K => forceV u fun u => match leaf u with | true => forceL l fun l => K (u :: l) | false => False
theorem ifLeaf {b : Bool} {X : Prop} (h : match b with | true => X | false => False) : b = true ∧ X := by cases b <;> first | exact h.elim | exact ⟨rfl, h⟩
theorem forceL_ok : ∀ {l : List Value} {K : List Value → Prop}, forceL l K → K l ∧ (∀ u ∈ l, leaf u = true ∧ u.oneCell' = true)
 | [], _, h => ⟨h, fun u hu => by cases hu⟩
 | u :: l, K, h => by
  obtain ⟨h1, _, h3⟩ := forceV_ok h
  obtain ⟨hf, h2⟩ := ifLeaf h1
  obtain ⟨hk, hl⟩ := forceL_ok h2
  refine ⟨hk, fun x hx => ?_⟩
  cases hx with
  | head => exact ⟨hf, h3⟩
  | tail _ hx => exact hl x hx
theorem LR.to0 {m : BM} : ∀ {l l' : List Value}, (∀ u ∈ l, leaf u = true) → LR (V1 m) l l' → LR (V0 m) l l'
 | [], [], _, _ => trivial
 | u :: _, _ :: _, h, x => ⟨(V1.of0 (h u (by simp))).1 x.1, LR.to0 (fun v hv => h v (by simp [hv])) x.2⟩
theorem LR.to1 {m : BM} : ∀ {l l' : List Value}, (∀ u ∈ l, leaf u = true) → LR (V0 m) l l' → LR (V1 m) l l'
 | [], [], _, _ => trivial
 | u :: _, _ :: _, h, x => ⟨(V1.of0 (h u (by simp))).2 x.1, LR.to1 (fun v hv => h v (by simp [hv])) x.2⟩
theorem HRel.cell {F : Nat → Prop} {B : Nat} {w0 : World} {m : BM} {h : HP} {n : Nat} {w : World} (H : HRel F B w0 m h n w) {i : Nat} {it : Itm} (e : lkH h i = some it) {g s : Nat} (hm : m i g s) :
 ∃ l, LR (V1 m) it.cells l ∧ ∀ j v, l[j]? = some v → w.cell? ⟨g, sh s + j, none⟩ = some v := by
 obtain ⟨g', s', hm', ok⟩ := H.dom i it e
 obtain ⟨rfl, rfl⟩ := H.fn _ _ _ _ _ hm hm'
 have hrow : ∀ {ty : TypeId} {size cap : Nat} {cs : List Value}, RowIs F B m w g ty size cap cs → ∃ l, LR (V1 m) cs l ∧ ∀ j v, l[j]? = some v → w.cell? ⟨g, sh 0 + j, none⟩ = some v := by
  rintro ty size cap cs ⟨_, _, l, cur, x, b, _, ht, hl⟩
  refine ⟨l, x, fun j v hj => ?_⟩
  rw [sh_zero, Nat.zero_add, cell_of_row w g j cur ty (0, 0) b]
  have hlt : j < l.length := by
   rcases Nat.lt_or_ge j l.length with h | h
   · exact h
   · rw [List.getElem?_eq_none h] at hj; cases hj
  rw [← ht, List.getElem?_take, if_pos hlt] at hj
  simpa using hj
 cases it with
 | own ty cs =>
  obtain ⟨rfl, _, l, x, b⟩ := ok
  exact ⟨l, x, fun j v hj => by rw [b.cell, sh_zero]; simpa using hj⟩
 | view cs => exact ok.2.2
 | row ty size cap cs => obtain ⟨rfl, ok⟩ := ok; exact hrow ok
 | lst ty size cap cs =>
  rcases ok with ⟨_, _, rfl⟩ | ⟨rfl, ok⟩
  · exact ⟨[], trivial, fun j v hj => by simp at hj⟩
  · exact hrow ok
 | lview cs =>
  rcases ok with ⟨_, rfl⟩ | ok
  · exact ⟨[], trivial, fun j v hj => by simp at hj⟩
  · exact ok.2.2
 | mp ks vs => exact ⟨[], trivial, fun j v hj => by simp at hj⟩
 | gv g0 o => exact ⟨[], trivial, fun j v hj => by simp at hj⟩
 | abs wr S Φ => exact ⟨[], trivial, fun j v hj => by simp at hj⟩
theorem run_loadCellsFrom {P : Program} (w : World) (a : Addr) : ∀ (n i : Nat) (l : List Value) (acc : Array Value), l.length = n → (∀ j v, l[j]? = some v → w.cell? (a.add (i + j)) = some v) →
 (loadCellsFrom a i n acc).run P w = .ok (acc ++ l.toArray) w
 | 0, i, l, acc, hl, _ => by
  have : l = [] := List.eq_nil_of_length_eq_zero hl
  subst this
  simp [loadCellsFrom]
 | n + 1, i, [], acc, hl, _ => by simp at hl
 | n + 1, i, v :: l, acc, hl, h => by
  have h0 := h 0 v rfl
  simp only [Nat.add_zero] at h0
  simp only [loadCellsFrom, Sem.run_bind, run_load, h0, Result.andThen_ok]
  rw [run_loadCellsFrom w a n (i + 1) l _ (by simpa using hl) (fun j u hj => by
   have := h (j + 1) u (by simpa using hj)
   rwa [show i + (j + 1) = i + 1 + j by omega] at this)]
  simp
theorem run_loadCells' {P : Program} (w : World) (a : Addr) (n : Nat) (l : List Value) (hl : l.length = n) (h : ∀ j v, l[j]? = some v → w.cell? (a.add j) = some v) :
 (loadCells a n).run P w = .ok l.toArray w := by
 unfold loadCells
 rw [run_loadCellsFrom w a n 0 l #[] hl (fun j v hj => by rw [Nat.zero_add]; exact h j v hj)]
 simp
theorem add_lit' (g o j : Nat) : (⟨g, o, none⟩ : Addr).add j = ⟨g, o + j, none⟩ := Addr.add_lit g o j
def subL (cs : List Value) (o n : Nat) : Option (List Value) := match Nat.ble (o + n) cs.length with | true => some ((cs.drop o).take n) | false => none
theorem subL_ok {cs vs : List Value} {o n : Nat} (h : subL cs o n = some vs) : (cs.drop o).take n = vs ∧ vs.length = n := by
 unfold subL at h
 split at h
 · rename_i hb
   have := Nat.le_of_ble_eq_true hb
   cases h
   refine ⟨rfl, ?_⟩
   rw [List.length_take, List.length_drop]; omega
 · cases h
theorem subL_in {cs vs : List Value} {o n : Nat} (h : (cs.drop o).take n = vs) (hn : vs.length = n) (h0 : n = 0 → o ≤ cs.length) : subL cs o n = some vs := by
 unfold subL
 subst h
 rw [List.length_take, List.length_drop] at hn
 have : Nat.ble (o + n) cs.length = true := Nat.ble_eq_true_of_le (by rcases Nat.eq_zero_or_pos n with h | h; · have := h0 h; omega
                                                                      · omega)
 rw [this]
theorem onS_in {α : Type} {x : Option α} {K : α → Prop} {v : α} (h : x = some v) (hk : K v) : onS x K := by rw [h]; exact hk
structure RigLd (T : Tab) (hp : HP) (ty : TypeId) (g o : Nat) (u : Value) : Prop where
 run : ∃ cells : List Value, (∃ r, lkR T ty = some r ∧ ((r.ty.agg = false ∧ cells = [u] ∧ noTup u = true) ∨ (r.ty.agg = true ∧ u = .agg cells.toArray ∧ cells.length = r.size ∧ ∀ x ∈ cells, leaf x = true))) ∧
  ∀ F B w0 m n w, HRel F B w0 m hp n w → ∃ l, LR (V1 m) cells l ∧ ∀ j v, l[j]? = some v → w.cell? ⟨g, o + j, none⟩ = some v
def vcLoad (T : Tab) (hp : HP) (ty : TypeId) (v : Value) (K : Value → Prop) : Prop :=
 match v with
 | .pointer (some ⟨b, o, none⟩) => onS (lkH hp b) fun it => onS (lkR T ty) fun r =>
  match r.ty.agg with
  | true => onS (subL it.cells o r.size) fun vs => forceL vs fun vs => K (.agg vs.toArray)
  | false => onS it.cells[o]? fun u => forceV u K
 | .pointer (some ⟨g, o, some (Nat.succ Nat.zero)⟩) => ∃ u, RigLd T hp ty g o u ∧ K u
 | _ => False
theorem vcLoad_ok {P : Program} {T : Tab} (hT : TabOk P T) {hp : HP} {ty : TypeId} {v : Value} {K : Value → Prop} (h : vcLoad T hp ty v K) :
 ∃ u, K u ∧ noTup u = true ∧ ∀ F B w0 m n w c, HRel F B w0 m hp n w → VR m v c → ∃ d, VR m u d ∧ (Instr.loadAt ty c).run P w = .ok d w := by
 unfold vcLoad at h
 split at h
 · rename_i b o
   obtain ⟨it, hit, h2⟩ := onS_ok h
   clear h
   obtain ⟨r, hr, h⟩ := onS_ok h2
   clear h2
   obtain ⟨ok, rfl⟩ := hT.look hr
   cases hag : r.ty.agg with
   | true =>
    rw [hag] at h
    obtain ⟨vs, hsub, hk⟩ := onS_ok h
    obtain ⟨hvs, hlen⟩ := subL_ok hsub
    obtain ⟨hk, hleaf⟩ := forceL_ok hk
    refine ⟨_, hk, rfl, fun F B w0 m n w c H hc => ?_⟩
    obtain ⟨a', ha, rfl⟩ := hc.ptr
    obtain ⟨g, s, hm, _, rfl⟩ := ha.old
    obtain ⟨l, hl, hcell⟩ := H.cell hit hm
    have hl' : LR (V1 m) vs ((l.drop o).take r.size) := hvs ▸ (hl.drop o).take r.size
    refine ⟨.agg ((l.drop o).take r.size).toArray, (VR.of1 rfl).2 ⟨_, LR.to0 (fun u hu => (hleaf u hu).1) hl', rfl⟩, ?_⟩
    have hlen' : ((l.drop o).take r.size).length = r.size := by rw [hl'.length, hlen]
    simp only [Instr.loadAt, Instr.sureAddr, Sem.run_bind, Sem.run_pure, Result.andThen_ok, loadVar, ok.isAgg, hag, ok.sizeOf, if_true]
    rw [run_loadCells' w _ _ _ hlen' (fun j u hj => by
     rw [add_lit', show o + sh s + j = sh s + (o + j) by omega]
     refine hcell _ _ ?_
     rw [List.getElem?_take] at hj
     split at hj
     · rwa [List.getElem?_drop] at hj
     · cases hj)]
    rfl
   | false =>
    rw [hag] at h
    obtain ⟨u, hu, hk⟩ := onS_ok h
    obtain ⟨hk, hnt, _⟩ := forceV_ok hk
    refine ⟨_, hk, hnt, fun F B w0 m n w c H hc => ?_⟩
    obtain ⟨a', ha, rfl⟩ := hc.ptr
    obtain ⟨g, s, hm, _, rfl⟩ := ha.old
    obtain ⟨l, hl, hcell⟩ := H.cell hit hm
    obtain ⟨d, hd, hv⟩ := hl.get hu
    refine ⟨d, (VR.of1 hnt).2 hv, ?_⟩
    have := hcell o d hd
    simp only [Instr.loadAt, Instr.sureAddr, Sem.run_bind, Sem.run_pure, Result.andThen_ok, loadVar, ok.isAgg, hag, Bool.false_eq_true, if_false, run_load]
    rw [show o + sh s = sh s + o by omega, this]
 · rename_i g o
   obtain ⟨u, ⟨cells, ⟨r, hr, hu⟩, hl⟩, hk⟩ := h
   obtain ⟨ok, rfl⟩ := hT.look hr
   rcases hu with ⟨hag, rfl, hnt⟩ | ⟨hag, rfl, hlen, hleaf⟩
   · refine ⟨_, hk, hnt, fun F B w0 m n w c H hc => ?_⟩
     obtain ⟨a', ha, rfl⟩ := hc.ptr
     obtain rfl := A0.rig1.1 ha
     obtain ⟨l, hl, hcell⟩ := hl F B w0 m n w H
     obtain ⟨d, hd, hv⟩ := hl.get (i := 0) rfl
     refine ⟨d, (VR.of1 hnt).2 hv, ?_⟩
     have := hcell 0 d hd
     simp only [Instr.loadAt, Instr.sureAddr, Sem.run_bind, Sem.run_pure, Result.andThen_ok, loadVar, ok.isAgg, hag, Bool.false_eq_true, if_false, run_load]
     rw [Nat.add_zero] at this
     rw [this]
   · refine ⟨_, hk, rfl, fun F B w0 m n w c H hc => ?_⟩
     obtain ⟨a', ha, rfl⟩ := hc.ptr
     obtain rfl := A0.rig1.1 ha
     obtain ⟨l, hl, hcell⟩ := hl F B w0 m n w H
     refine ⟨.agg l.toArray, (VR.of1 rfl).2 ⟨_, LR.to0 hleaf hl, rfl⟩, ?_⟩
     have hlen' : l.length = r.size := by rw [hl.length, hlen]
     simp only [Instr.loadAt, Instr.sureAddr, Sem.run_bind, Sem.run_pure, Result.andThen_ok, loadVar, ok.isAgg, hag, ok.sizeOf, if_true]
     rw [run_loadCells' w _ _ _ hlen' (fun j u hj => by rw [add_lit']; exact hcell _ _ hj)]
     rfl
 · exact h.elim
def vcConv (T : Tab) (hp : HP) (src dst : TypeId) (v : Value) (K : Value → Prop) : Prop :=
 onS (lkR T src) fun rs => onS (lkR T dst) fun rd =>
 match v with
 | .int _ n => match rd.ty with | .int k => ∃ r, r = k.wrap n ∧ K (.int k r) | _ => False
 | .string s => match rd.ty with | .string => K (.string s) | _ => False
 | .slice a n c => match rs.ty, rd.ty with
  | .slice e, .string => onS (lkR T e) fun re => match re.ty with
   | .int .u8 => match a with
    | none => K (.string ⟨#[]⟩)
    | some ⟨b, o, q⟩ => nr q <| onS (lkH hp b) fun it => ∃ l : List UInt8, (it.cells.drop o).take n = l.map byteV' ∧ l.length = n ∧ K (.string (strOf l))
   | _ => False
  | _, _ => False
 | _ => False
theorem LR.bytes {m : BM} : ∀ {l : List UInt8} {x : List Value}, LR (V1 m) (l.map byteV') x → x = l.map byteV'
 | [], [], _ => rfl
 | b :: l, c :: x, h => by
  rw [List.map_cons, LR.bytes h.2, (V1.flat (by rfl)).1 h.1]
theorem vcConv_ok {P : Program} {T : Tab} (hT : TabOk P T) {hp : HP} {src dst : TypeId} {v : Value} {K : Value → Prop} (h : vcConv T hp src dst v K) :
 ∃ u, K u ∧ flatR u = true ∧ ∀ F B w0 m n w c, HRel F B w0 m hp n w → VR m v c → (convert src dst c).run P w = .ok u w := by
 obtain ⟨rs, hs, h2⟩ := onS_ok h
 clear h
 obtain ⟨rd, hd, h⟩ := onS_ok h2
 clear h2
 obtain ⟨oks, rfl⟩ := hT.look hs
 obtain ⟨okd, rfl⟩ := hT.look hd
 have ds := oks.desc
 have dd := okd.desc
 have us : ∃ d, P.underlying rs.t = some d := by
  cases e : rs.ty <;> rw [e] at ds <;> first | exact ⟨_, ds⟩ | (obtain ⟨_, h, _⟩ := ds; exact ⟨_, h⟩) | (obtain ⟨_, h⟩ := ds; exact ⟨_, h⟩) | (obtain ⟨_, _, _, h⟩ := ds; exact ⟨_, h⟩) | exact ds.elim
 obtain ⟨d, us⟩ := us
 cases v <;> dsimp only at h <;> first | exact h.elim | skip
 case int k n =>
  cases e : rd.ty <;> rw [e] at h dd <;> first | exact h.elim | skip
  obtain ⟨r, rfl, hk⟩ := h
  refine ⟨_, hk, rfl, fun F B w0 m n w c H hc => ?_⟩
  rw [hc.int]
  simp [convert, run_underlying us, run_underlying (show P.underlying rd.t = _ from dd), Conv.intToInt]
 case string s =>
  cases e : rd.ty <;> rw [e] at h dd <;> first | exact h.elim | skip
  refine ⟨_, h, rfl, fun F B w0 m n w c H hc => ?_⟩
  rw [hc.str]
  simp [convert, run_underlying us, run_underlying (show P.underlying rd.t = _ from dd)]
 case slice a n cap =>
  cases e1 : rs.ty <;> rw [e1] at h ds <;> first | exact h.elim | skip
  rename_i e
  cases e2 : rd.ty <;> rw [e2] at h dd <;> first | exact h.elim | skip
  obtain ⟨re, he, h2⟩ := onS_ok h
  clear h
  obtain ⟨oke, rfl⟩ := hT.look he
  have de := oke.desc
  split at h2
  · rename_i hty
    rw [hty] at de
    split at h2
    · refine ⟨_, h2, rfl, fun F B w0 m n' w c H hc => ?_⟩
      rw [(VR.flat rfl).1 hc]
      simp [convert, run_underlying (show P.underlying rs.t = _ from ds), run_underlying (show P.underlying rd.t = _ from dd), run_underlying (show P.underlying re.t = _ from de), Conv.bytesToString]
      rfl
    · rename_i b o q
      obtain ⟨hr, h3⟩ := nr_ok h2
      obtain ⟨it, hit, l, hl, hln, hk⟩ := onS_ok h3
      refine ⟨_, hk, rfl, fun F B w0 m n' w c H hc => ?_⟩
      rcases hc.slc_or hr with ⟨rfl, rfl, g, rfl, _⟩ | ⟨g, s, hm, _, rfl⟩
      · have : l = [] := List.eq_nil_of_length_eq_zero hln
        subst this
        cases weird g <;> simp [convert, run_underlying (show P.underlying rs.t = _ from ds), run_underlying (show P.underlying rd.t = _ from dd), run_underlying (show P.underlying re.t = _ from de), Conv.bytesToString, loadCells, loadCellsFrom] <;> rfl
      obtain ⟨x, hx, hcell⟩ := H.cell hit hm
      have hx' : (x.drop o).take n = l.map byteV' := LR.bytes (m := m) (hl ▸ (hx.drop o).take n)
      subst hln
      refine run_convert_bytes_back w rs.t rd.t re.t ⟨g, o + sh s, none⟩ cap l ds de dd (fun j hj => ?_)
      rw [add_lit', show o + sh s + j = sh s + (o + j) by omega]
      refine hcell _ _ ?_
      have : ((x.drop o).take l.length)[j]? = (l.map byteV')[j]? := by rw [hx']
      rw [List.getElem?_take, if_pos hj, List.getElem?_drop] at this
      rw [this]
      simp [byteV', hj]
  · exact h2.elim
end Go.Proofs.YtelolcagncgfpaaGreat
