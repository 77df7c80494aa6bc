/- The document's disk over memory; what comes ahead of an operation; a file is put in, taken out. -/
import Derived.Test.YtdgmjjidkaafaaaEngX
import Derived.Test.YtdgmjjidkaafaaaDiskFs
import Derived.Test.YtdgmjjidkaafaaaCall
namespace Go.Proofs.Ytdgmjjidkaafaaa
open Go.RowKit
set_option linter.unusedSimpArgs false
set_option linter.unusedVariables false
/-- A slice of the world's own, told by its place's code. -/
abbrev rs (p : Option Addr) (l k : Nat) : Value := .slice (some ⟨wcode p, 0, some 3⟩) l k
theorem rs_V1 {m : BM} {p : Option Addr} {l k : Nat} {c : Value} : V1 m (rs p l k) c ↔ c = .slice p l k := (V1.of0 rfl).trans rsl_V0
/-- A file: its name, what it holds, where its lists stand, their room. -/
structure RF where
  nm : ByteArray
  X : Fl
  a : Option Addr
  b : Option Addr
  c : Option Addr
  ka : Nat
  kb : Nat
  kc : Nat
structure Plc (p : Option Addr) (l k : Nat) : Prop where
  le : l ≤ k
  ex : (l = 0 ∧ k = 0) ∨ ∃ g o, p = some ⟨g, o, none⟩
structure RF.Cap (e : RF) : Prop where
  a : Plc e.a e.X.now.length e.ka
  b : Plc e.b e.X.safe.length e.kb
  c : Plc e.c e.X.wait.length e.kc
abbrev fileR (e : RF) : List Value := [.string e.nm, rs e.a e.X.now.length e.ka, rs e.b e.X.safe.length e.kb, rs e.c e.X.wait.length e.kc, .bool e.X.sure]
abbrev fileC (e : RF) : List Value := [.string e.nm, .slice e.a e.X.now.length e.ka, .slice e.b e.X.safe.length e.kb, .slice e.c e.X.wait.length e.kc, .bool e.X.sure]
abbrev cellN (c : Cv) : List Value := [.bool true, .string (c.getD ⟨#[]⟩), .bool c.isNone]
def tornS : Option Cv → Bool
  | some none => true
  | _ => false
abbrev cellS (c : Option Cv) : List Value := [.bool c.isSome, .string ((c.getD none).getD ⟨#[]⟩), .bool (tornS c)]
theorem cellS_some (c : Cv) : cellS (some c) = cellN c := by cases c <;> rfl
theorem fileR_still (e : RF) : ∀ v ∈ fileR e, still1 v = true := by
  intro v hv
  simp only [List.mem_cons, List.not_mem_nil, or_false] at hv
  rcases hv with rfl | rfl | rfl | rfl | rfl <;> rfl
theorem files_still (E : List RF) : ∀ v ∈ E.flatMap fileR, still1 v = true := fun v hv => by
  obtain ⟨e, _, h⟩ := List.mem_flatMap.1 hv
  exact fileR_still e v h
theorem fileR_C {m : BM} {e : RF} {x : List Value} : LR (V1 m) (fileR e) x ↔ x = fileC e := by
  constructor
  · match x with
    | [v1, v2, v3, v4, v5] =>
      rintro ⟨h1, h2, h3, h4, h5, _⟩
      rw [(V1.flat rfl).1 h1, rs_V1.1 h2, rs_V1.1 h3, rs_V1.1 h4, (V1.flat rfl).1 h5]
    | [] => exact fun h => h.elim
    | [_] => exact fun h => h.2.elim
    | [_, _] => exact fun h => h.2.2.elim
    | [_, _, _] => exact fun h => h.2.2.2.elim
    | [_, _, _, _] => exact fun h => h.2.2.2.2.elim
    | _ :: _ :: _ :: _ :: _ :: _ :: _ => exact fun h => h.2.2.2.2.2.elim
  · rintro rfl
    exact ⟨(V1.flat rfl).2 rfl, rs_V1.2 rfl, rs_V1.2 rfl, rs_V1.2 rfl, (V1.flat rfl).2 rfl, trivial⟩
theorem LR.split {R : Value → Value → Prop} : ∀ {a b x : List Value}, LR R (a ++ b) x → ∃ y z, x = y ++ z ∧ LR R a y ∧ LR R b z
  | [], _, x, h => ⟨[], x, rfl, trivial, h⟩
  | v :: a, b, c :: x, h => by
    obtain ⟨y, z, rfl, h1, h2⟩ := LR.split (a := a) (b := b) (x := x) h.2
    exact ⟨c :: y, z, rfl, ⟨h.1, h1⟩, h2⟩
theorem filesR_C {m : BM} : ∀ {E : List RF} {x : List Value}, LR (V1 m) (E.flatMap fileR) x ↔ x = E.flatMap fileC
  | [], x => by cases x <;> simp [LR]
  | e :: E, x => by
    rw [List.flatMap_cons, List.flatMap_cons]
    constructor
    · intro h
      obtain ⟨y, z, rfl, h1, h2⟩ := LR.split h
      rw [fileR_C.1 h1, filesR_C.1 h2]
    · rintro rfl
      exact (fileR_C.2 rfl).append (filesR_C.2 rfl)
/-! Lists that are kept. -/
def SlcS (S : Nat → Prop) (w : World) (p : Option Addr) (l k : Nat) (cells : List Value) : Prop :=
  (l = 0 ∧ k = 0 ∧ cells = []) ∨ ∃ g o, p = some ⟨g, o, none⟩ ∧ S g ∧ ∀ j u, cells[j]? = some u → w.cell? ⟨g, o + j, none⟩ = some u
theorem SlcS.same {S S' : Nat → Prop} {w w' : World} {p : Option Addr} {l k : Nat} {cells : List Value} (hS : ∀ b, S b → S' b) (hw : ∀ b, S b → w'.heap[b]? = w.heap[b]?) : SlcS S w p l k cells → SlcS S' w' p l k cells
  | .inl h => .inl h
  | .inr ⟨g, o, h1, h2, h3⟩ => .inr ⟨g, o, h1, hS g h2, fun j u hj => by
    rw [World.cell?_of_block (w := w) (w' := w') (a := ⟨g, o + j, none⟩) (hw g h2)]
    exact h3 j u hj⟩
structure FzOk (S : Nat → Prop) (w : World) (e : RF) : Prop where
  a : SlcS S w e.a e.X.now.length e.ka (e.X.now.flatMap cellN)
  b : SlcS S w e.b e.X.safe.length e.kb (e.X.safe.flatMap cellS)
  c : SlcS S w e.c e.X.wait.length e.kc (e.X.wait.map .bool)
theorem FzOk.same {S S' : Nat → Prop} {w w' : World} {e : RF} (hS : ∀ b, S b → S' b) (hw : ∀ b, S b → w'.heap[b]? = w.heap[b]?) (h : FzOk S w e) : FzOk S' w' e := ⟨h.a.same hS hw, h.b.same hS hw, h.c.same hS hw⟩
def FzP (S : Nat → Prop) (E : List RF) (w : World) : Prop := ∀ e ∈ E, FzOk S w e
theorem FzP.stab (S : Nat → Prop) (E : List RF) : Stab S (FzP S E) := fun w w' _ h H e he => (H e he).same (fun _ h => h) h
/-- What is known of the lists that are kept. -/
abbrev fzI (S : Nat → Prop) (E : List RF) : Itm := .abs true S (fun _ => FzP S E)
/-! A row of any elements. -/
def RowN (w : World) (r : Rl) (ty : TypeId) (size : Nat) (l : List Value) : Prop :=
  (r.s = nilS ∧ r.k = 0 ∧ l = []) ∨ (r.s = 0 ∧ r.k ≤ maxLen ∧ ∃ cur, w.heap[r.g]? = some (.cells cur ty (0, 0)) ∧ cur.size = r.k * size ∧ cur.toList.take l.length = l ∧ l.length ≤ cur.size)
theorem RowN.same {w w' : World} {r : Rl} {ty : TypeId} {size : Nat} {l : List Value} (h : ∀ b ∈ r.bl, w'.heap[b]? = w.heap[b]?) : RowN w r ty size l → RowN w' r ty size l
  | .inl x => .inl x
  | .inr ⟨a, b, cur, c, d⟩ => .inr ⟨a, b, cur, (h r.g (by unfold Rl.bl; rw [if_neg (by rw [a]; exact zero_ne_nilS)]; simp)).trans c, d⟩
theorem RowN.item {F : Nat → Prop} {B : Nat} {m : BM} {w : World} {r : Rl} {ty : TypeId} {size : Nat} {cs l : List Value} (h : RowN w r ty size l) (hl : LR (V1 m) cs l) (hf : ∀ b ∈ r.bl, B ≤ b ∨ F b) : ItmOk F B m w r.g r.s (.lst ty size r.k cs) := by
  rcases h with ⟨a, b, rfl⟩ | ⟨a, b, cur, c, d, e, f⟩
  · refine .inl ⟨a, b, ?_⟩
    cases cs with
    | nil => rfl
    | cons _ _ => exact hl.elim
  · exact .inr ⟨a, hf r.g (by unfold Rl.bl; rw [if_neg (by rw [a]; exact zero_ne_nilS)]; simp), b, l, cur, hl, c, d, e, f⟩
theorem RowN.of {F : Nat → Prop} {B : Nat} {m : BM} {w : World} {g s k size : Nat} {ty : TypeId} {cs : List Value} (h : ItmOk F B m w g s (.lst ty size k cs)) : ∃ l, LR (V1 m) cs l ∧ RowN w ⟨g, s, k⟩ ty size l := by
  rcases h with ⟨a, b, rfl⟩ | ⟨a, _, b, l, cur, hl, c, d, e, f⟩
  · exact ⟨[], trivial, .inl ⟨a, b, rfl⟩⟩
  · exact ⟨l, hl, .inr ⟨a, b, cur, c, d, e, f⟩⟩
/-- The slice of a row. -/
theorem RowN.slc {m : BM} {w : World} {r : Rl} {ty : TypeId} {size : Nat} {l : List Value} (h : RowN w r ty size l) {i : Nat} (hm : m i r.g r.s) {n : Nat} (hn : l = [] → n = 0) : V0 m (mslice i n r.k) (r.val n) := by
  refine ⟨r.g, r.s, hm, ?_⟩
  rcases h with ⟨a, b, e⟩ | ⟨a, _⟩
  · exact .inl ⟨a, hn e, b, by unfold Rl.val; rw [if_pos a]⟩
  · exact .inr ⟨by rw [a]; exact zero_ne_nilS, by unfold Rl.val; rw [if_neg (by rw [a]; exact zero_ne_nilS), a, sh_zero]⟩
/-! The disk. -/
/-- What is armed, as the document keeps it. -/
structure RK where
  at' : Int
  kd : Int
  mo : Int
structure RK.Ok (r : RK) (k : Dk) : Prop where
  no : k.at' = 0 → r.kd = 0
  yes : k.at' ≠ 0 → r.at' = k.at' ∧ r.kd = k.kind ∧ r.kd ≠ 0 ∧ r.mo = k.more
  ba : -9223372036854775808 ≤ r.at' ∧ r.at' ≤ 9223372036854775807
  bk : -9223372036854775808 ≤ r.kd ∧ r.kd ≤ 9223372036854775807
  bm : -9223372036854775808 ≤ r.mo ∧ r.mo ≤ 9223372036854775807
abbrev rdv (i n c : Nat) (k : Dk) (r : RK) : List Value := [mslice i n c, iv k.room, .bool k.down, iv k.ops, iv k.life, iv r.at', iv r.kd, iv r.mo]
abbrev filesR (E : List RF) : Fs := E.map fun e => (e.nm, e.X)
structure RefAt (S : Nat → Prop) (D : DM) (g : Nat) (w : World) : Prop where
  ex : ∃ (E : List RF) (r : Rl) (q : RK) (S' : Nat → Prop), Blk w g 87 [r.val E.length, iv D.k.room, .bool D.k.down, iv D.k.ops, iv D.k.life, iv q.at', iv q.kd, iv q.mo].toArray ∧ RowN w r 91 5 (E.flatMap fileC) ∧ FzP S' E w ∧
    (∀ b, S' b → S b) ∧ S g ∧ (∀ b ∈ r.bl, S b) ∧ ¬ S' g ∧ (∀ b ∈ r.bl, b ≠ g ∧ ¬ S' b) ∧ q.Ok D.k ∧ filesR E = D.fs ∧ E.length ≤ r.k ∧ ∀ e ∈ E, e.Cap
theorem RefAt.stab (S : Nat → Prop) (D : DM) (g : Nat) : Stab S (RefAt S D g) := fun w w' hs h ⟨E, r, q, S', h1, h2, h3, s1, s2, s3, t⟩ =>
  ⟨E, r, q, S', (h g s2).trans h1, h2.same fun b hb => h b (s3 b hb), FzP.stab S' E w w' hs (fun b hb => h b (s1 b hb)) h3, s1, s2, s3, t⟩
abbrev refI (S : Nat → Prop) (D : DM) : Itm := .abs true S (RefAt S D)
theorem row_nil {r : Rl} {w : World} {ty : TypeId} {E : List RF} (_h : RowN w r ty 5 (E.flatMap fileC)) : E.flatMap fileC = [] → E.length = 0 := fun h => by
  cases E with
  | nil => rfl
  | cons e E => rw [List.flatMap_cons] at h; cases h
/-- What is known of a disk that is opened. -/
structure OpenR (D : DM) (E : List RF) (c : Nat) (q : RK) : Prop where
  fs : filesR E = D.fs
  rk : q.Ok D.k
  le : E.length ≤ c
  cap : ∀ e ∈ E, e.Cap
section
variable {F : Nat → Prop} {B : Nat} {w0 : World} {m : BM} {h : HP} {n : Nat} {w : World} (H : HRel F B w0 m h n w)
include H
/-- The disk, opened: its struct stands at its own number, the files' row and what is known of their lists behind all others. -/
theorem open_ref {i : Nat} {S : Nat → Prop} {D : DM} (e : lkH h i = some (refI S D)) {g : Nat} (hg : m i g 0) :
    ∃ (E : List RF) (c : Nat) (q : RK) (S' : Nat → Prop) (m' : BM), m.le m' ∧ OpenR D E c q ∧ 
      HRel F B w0 m' ((n + 1, fzI S' E) :: (n, .lst 91 5 c (E.flatMap fileR)) :: upH h i (.own 87 (rdv n E.length c D.k q))) (n + 2) w := by
  obtain ⟨hroot, hlt, hfen, _, ⟨E, r, q, S', h1, h2, h3, s1, s2, s3, s4, s5, h4, h5, h6, h7⟩⟩ := H.at e hg
  have fen := hfen rfl
  have hs : V0 (m.put n r.g r.s) (mslice n E.length r.k) (r.val E.length) := h2.slc (.inr ⟨rfl, rfl, rfl⟩) (row_nil h2)
  have A1 := (H.name r.g r.s).openAt e (g := g) (.inl hg) (.own 87 (rdv n E.length r.k D.k q)) rfl s2
    ⟨rfl, fen g s2, [r.val E.length, iv D.k.room, .bool D.k.down, iv D.k.ops, iv D.k.life, iv q.at', iv q.kd, iv q.mo], ⟨(V1.of0 rfl).2 hs, (V1.flat rfl).2 rfl, (V1.flat rfl).2 rfl, (V1.flat rfl).2 rfl, (V1.flat rfl).2 rfl, (V1.flat rfl).2 rfl, (V1.flat rfl).2 rfl, (V1.flat rfl).2 rfl, trivial⟩, h1⟩
  have A2 := A1.give (k := n) (g := r.g) (s := r.s) (.inr ⟨rfl, rfl, rfl⟩) (lkH_up_none e (H.none (Nat.le_refl _))) (.lst 91 5 r.k (E.flatMap fileR)) (h2.item (filesR_C.2 rfl) fun b hb => fen b (s3 b hb)) (by
    intro b hb hU
    have hb := (Rl.blk rfl rfl).1 hb
    rcases hU with hU | rfl
    · exact hU (s3 b hb)
    · exact (s5 b hb).1 rfl)
  have A3 := A2.add 0 nilS (fzI S' E) ⟨.inl ⟨rfl, rfl⟩, fun b hb => hlt b (s1 b hb), fun _ b hb => fen b (s1 b hb), FzP.stab S' E, h3⟩ (by
    intro b hb hU
    have hb : S' b := hb
    rcases hU with (hU | rfl) | hU
    · exact hU (s1 b hb)
    · exact s4 hb
    · exact (s5 b ((Rl.blk rfl rfl).1 hU)).2 hb)
  exact ⟨E, r.k, q, S', _, fun j q s x => .inl (.inl x), ⟨h5, h4, h6, h7⟩, A3.H⟩
/-- The disk is put together again. -/
theorem close_ref {i j f : Nat} {k : Dk} {q : RK} {E : List RF} {c : Nat} {S' : Nat → Prop} {fs : Fs} (ei : lkH h i = some (.own 87 (rdv j E.length c k q))) (ej : lkH h j = some (.lst 91 5 c (E.flatMap fileR))) (ef : lkH h f = some (fzI S' E))
    (hd : [i, j, f].Nodup) (hO : OpenR ⟨k, fs⟩ E c q) : ∃ S, HRel F B w0 m ((i, refI S ⟨k, fs⟩) :: rmHs [i, j, f] h) n w := by
  obtain ⟨g, hg, _, hfg, l, hl, hblk⟩ := H.place ei
  obtain ⟨gj, sj, hgj, okj⟩ := H.dom j _ ej
  obtain ⟨gf, sf, hgf, okf⟩ := H.dom f _ ef
  have zj := lst_mark okj
  have okj2 := okj
  obtain ⟨lr, hlr, hrow⟩ := RowN.of okj
  obtain rfl := filesR_C.1 hlr
  simp only [List.nodup_cons, List.mem_cons, List.not_mem_nil, or_false, not_or, List.nodup_nil, and_true, not_false_eq_true] at hd
  obtain ⟨⟨ij, if'⟩, jf⟩ := hd
  have hl' : l = [(⟨gj, sj, c⟩ : Rl).val E.length, iv k.room, .bool k.down, iv k.ops, iv k.life, iv q.at', iv q.kd, iv q.mo] := by
    match l, hl with
    | [v1, v2, v3, v4, v5, v6, v7, v8], ⟨q1, q2, q3, q4, q5, q6, q7, q8, _⟩ =>
      rw [slc_val H.fn ((V1.of0 rfl).1 q1) hgj zj, (V1.flat rfl).1 q2, (V1.flat rfl).1 q3, (V1.flat rfl).1 q4, (V1.flat rfl).1 q5, (V1.flat rfl).1 q6, (V1.flat rfl).1 q7, (V1.flat rfl).1 q8]
  subst hl'
  have n1 : ∀ b ∈ (⟨gj, sj, c⟩ : Rl).bl, (Itm.lst 91 5 c (E.flatMap fileR)).blk gj sj b := fun b hb => (Rl.blk (r := ⟨gj, sj, c⟩) rfl rfl).2 hb
  have hgi : (Itm.own 87 (rdv j E.length c k q)).blk g 0 g := ⟨zero_ne_nilS, rfl⟩
  refine ⟨fun b => b = g ∨ b ∈ (⟨gj, sj, c⟩ : Rl).bl ∨ S' b, H.closeAt [i, j, f] (i := i) (by simp) hg _ (RefAt _ ⟨k, fs⟩) ?_ (.inr rfl) (RefAt.stab _ _ _) ?_⟩
  · rintro b (rfl | hb | hb)
    · exact ⟨i, by simp, _, _, _, ei, rfl, hg, hgi⟩
    · exact ⟨j, by simp, _, gj, sj, ej, rfl, hgj, n1 b hb⟩
    · exact ⟨f, by simp, _, gf, sf, ef, rfl, hgf, hb⟩
  · refine ⟨E, ⟨gj, sj, c⟩, q, S', hblk, hrow, okf.2.2.2.2, fun b hb => .inr (.inr hb), .inl rfl, fun b hb => .inr (.inl hb), fun hb => ?_, fun b hb => ⟨fun e => ?_, fun hs => ?_⟩, hO.rk, hO.fs, hO.le, hO.cap⟩
    · exact H.sep i _ f _ g 0 gf sf g ei rfl ef if' hg hgf hgi hb
    · subst e
      exact H.sep i _ j _ b 0 gj sj b ei rfl ej ij hg hgj hgi (n1 b hb)
    · exact H.sep j _ f _ gj sj gf sf b ej rfl ef jf hgj hgf (n1 b hb) hs
/-- A list of the call's own is put to those that are kept. -/
theorem keep_list {a f : Nat} {ty : TypeId} {size k : Nat} {cs : List Value} {S : Nat → Prop} {E : List RF} (ea : lkH h a = some (.lst ty size k cs)) (ef : lkH h f = some (fzI S E)) (haf : a ≠ f) (hcs : ∀ v ∈ cs, flat1 v = true) :
    ∃ (p : Option Addr) (S' : Nat → Prop), (∀ b, S b → S' b) ∧ (∀ l, (cs = [] → l = 0) → (l = 0 ∧ k = 0) ∨ ∃ g o, p = some ⟨g, o, none⟩) ∧ (∀ l c, V0 m (mslice a l k) c → (cs = [] → l = 0) → c = .slice p l k) ∧
      (∀ l, (cs = [] → l = 0) → ∀ w', (∀ b, S' b → w'.heap[b]? = w.heap[b]?) → SlcS S' w' p l k cs) ∧ HRel F B w0 m ((f, fzI S' E) :: rmHs [a, f] h) n w := by
  obtain ⟨ga, sa, hga, oka⟩ := H.dom a _ ea
  obtain ⟨gf, sf, hgf, okf⟩ := H.dom f _ ef
  have za := lst_mark oka
  have ok2 := oka
  obtain ⟨l, hl, hrow⟩ := RowN.of oka
  have hl' : l = cs := LR.eq_of (fun v hv x hx => (V1.flat (hcs v hv)).1 hx) hl
  subst hl'
  have hbl : ∀ b, b ∈ (⟨ga, sa, k⟩ : Rl).bl → (Itm.lst ty size k l).blk ga sa b := fun b hb => (Rl.blk (r := ⟨ga, sa, k⟩) rfl rfl).2 hb
  refine ⟨if sa = nilS then weird ga else some ⟨ga, 0, none⟩, fun b => S b ∨ b ∈ (⟨ga, sa, k⟩ : Rl).bl, fun b hb => .inl hb, fun len hz => ?_, fun len c hv hz => ?_, fun len hz w' hw => ?_, ?_⟩
  · rcases hrow with ⟨_, hk, hl0⟩ | ⟨hs, _⟩
    · exact .inl ⟨hz hl0, hk⟩
    · dsimp only at hs
      exact .inr ⟨ga, 0, by rw [if_neg (by rw [hs]; exact zero_ne_nilS)]⟩
  · have := slc_val H.fn hv hga za
    rw [this]
    unfold Rl.val
    dsimp only
    by_cases hs : sa = nilS
    · rw [if_pos hs, if_pos hs]
      rcases hrow with ⟨_, hk, hl0⟩ | ⟨hx, _⟩
      · dsimp only at hk
        rw [hz hl0, hk]
      · dsimp only at hx
        rw [hx] at hs; exact absurd hs zero_ne_nilS
    · rw [if_neg hs, if_neg hs]
  · rcases hrow with ⟨hs, hk, hl0⟩ | ⟨hs, hk, cur, hc, h1, h2, h3⟩
    · exact .inl ⟨hz hl0, hk, hl0⟩
    · dsimp only at hs hc h1
      refine .inr ⟨ga, 0, by rw [if_neg (by rw [hs]; exact zero_ne_nilS)], .inr (by unfold Rl.bl; dsimp only; rw [if_neg (by rw [hs]; exact zero_ne_nilS)]; simp), fun j u hj => ?_⟩
      have hw' : w'.heap[ga]? = some (.cells cur ty (0, 0)) := (hw ga (.inr (by unfold Rl.bl; dsimp only; rw [if_neg (by rw [hs]; exact zero_ne_nilS)]; simp))).trans hc
      rw [cell_of_row w' ga _ cur ty (0, 0) hw', Nat.zero_add]
      rw [← h2, List.getElem?_take] at hj
      split at hj
      · simpa using hj
      · cases hj
  · refine H.closeAt [a, f] (i := f) (by simp) hgf _ (fun _ => FzP _ E) ?_ okf.1 (FzP.stab _ _) fun e he => (okf.2.2.2.2 e he).same (fun b hb => .inl hb) (fun _ _ => rfl)
    rintro b (hb | hb)
    · exact ⟨f, by simp, _, gf, sf, ef, rfl, hgf, hb⟩
    · exact ⟨a, by simp, _, ga, sa, ea, rfl, hga, hbl b hb⟩
/-- Nothing is known of no list. -/
theorem none_kept : HRel F B w0 (m.put n 0 nilS) ((n, fzI (fun _ => False) []) :: h) (n + 1) w :=
  H.pushAt (Below.refl _ w) (fun _ hb => hb.elim) ⟨.inl ⟨rfl, rfl⟩, fun _ hb => hb.elim, fun _ _ hb => hb.elim, FzP.stab _ _, fun e he => by cases he⟩
end
/-! Lists that are kept, read. -/
theorem cells_flat {v : Value} {l : List Cv} (h : v ∈ l.flatMap cellN) : flat1 v = true := by
  obtain ⟨c, _, h⟩ := List.mem_flatMap.1 h
  simp only [cellN, List.mem_cons, List.not_mem_nil, or_false] at h
  rcases h with rfl | rfl | rfl <;> rfl
theorem safes_flat {v : Value} {l : List (Option Cv)} (h : v ∈ l.flatMap cellS) : flat1 v = true := by
  obtain ⟨c, _, h⟩ := List.mem_flatMap.1 h
  simp only [cellS, List.mem_cons, List.not_mem_nil, or_false] at h
  rcases h with rfl | rfl | rfl <;> rfl
theorem bools_flat {v : Value} {l : List Bool} (h : v ∈ l.map .bool) : flat1 v = true := by obtain ⟨b, _, rfl⟩ := List.mem_map.1 h; rfl
theorem take_cells {α : Type} (f : α → List Value) (z : Nat) (hf : ∀ a, (f a).length = z) : ∀ (l : List α) (n : Nat), (l.flatMap f).take (n * z) = (l.take n).flatMap f
  | [], n => by simp
  | a :: l, 0 => by simp
  | a :: l, n + 1 => by
    rw [List.flatMap_cons, List.take_succ_cons, List.flatMap_cons, ← take_cells f z hf l n, show (n + 1) * z = (f a).length + n * z by rw [hf, Nat.add_mul, Nat.one_mul]; omega, List.take_length_add_append]
theorem len_cells {α : Type} (f : α → List Value) (z : Nat) (hf : ∀ a, (f a).length = z) (l : List α) : (l.flatMap f).length = l.length * z := flat_length (f := f) (n := z) hf l
theorem flat_sub {T : Type} {f : T → List Value} {l : List T} {n i o : Nat} {y : T} (hn : ∀ y, (f y).length = n) (hy : l[i]? = some y) (ho : o = i * n) : subL (l.flatMap f) o n = some (f y) := by
  subst ho
  have hs : l = l.take i ++ y :: l.drop (i + 1) := by rw [← drop_at hy, List.take_append_drop]
  have hi : i < l.length := (List.getElem?_eq_some_iff.1 hy).1
  have hl : ((l.take i).flatMap f).length = i * n := by rw [len_cells f n hn, List.length_take, Nat.min_eq_left (by omega)]
  refine subL_in ?_ (hn y) (fun h0 => ?_)
  · conv => lhs; rw [hs]
    rw [List.flatMap_append, List.flatMap_cons, List.drop_append_of_le_length (by omega), List.drop_of_length_le (by omega), List.nil_append, List.take_append_of_le_length (by rw [hn]; omega), List.take_of_length_le (by rw [hn]; omega)]
  · rw [len_cells f n hn, h0, Nat.mul_zero]; omega
/-- A list that is kept, appended to another. -/
theorem src_of {h : HP} {i : Nat} {S : Nat → Prop} {E : List RF} (e : lkH h i = some (fzI S E)) {p : Option Addr} {l k z n : Nat} {cs : List Value} (hs : ∀ w, FzP S E w → SlcS S w p l k cs) (hf : ∀ v ∈ cs, flat1 v = true) (hl : cs.length = l * z) (hn : n ≤ l) :
    RigSrc h z (rs p n k) n (cs.take (n * z)) := ⟨fun F B w0 m n' w cx H hx => by
  have hx : cx = .slice p n k := rs_V1.1 ((VR.of1 rfl).1 hx)
  subst hx
  obtain ⟨g, s, _, ok⟩ := H.dom i _ e
  rcases hs w ok.2.2.2.2 with ⟨h1, h2, h3⟩ | ⟨g, o, h1, _, h3⟩
  · obtain rfl : n = 0 := by omega
    subst h2 h3
    exact .inl ⟨rfl, by simp, p, rfl⟩
  · subst h1
    refine .inr ⟨g, o, k, _, rfl, LR.refl_of fun v hv => (V1.flat (hf v (List.mem_of_mem_take hv))).2 rfl, ?_, fun j v hj => ?_⟩
    · rw [List.length_take, hl]
      have := Nat.mul_le_mul_right z hn
      omega
    · rw [add_lit']
      rw [List.getElem?_take] at hj
      split at hj
      · exact h3 j v hj
      · cases hj⟩
section
variable {h : HP} {i : Nat} {S : Nat → Prop} {E : List RF} (e : lkH h i = some (fzI S E)) {x : RF} (hx : ∀ w, FzP S E w → FzOk S w x)
include e hx
theorem src_now {n : Nat} (hn : n ≤ x.X.now.length) : RigSrc h 3 (rs x.a n x.ka) n ((x.X.now.take n).flatMap cellN) := by
  have := src_of e (fun w hw => (hx w hw).a) (fun v hv => cells_flat hv) (len_cells cellN 3 (fun _ => rfl) _) hn
  rwa [take_cells cellN 3 (fun _ => rfl)] at this
theorem src_safe {n : Nat} (hn : n ≤ x.X.safe.length) : RigSrc h 3 (rs x.b n x.kb) n ((x.X.safe.take n).flatMap cellS) := by
  have := src_of e (fun w hw => (hx w hw).b) (fun v hv => safes_flat hv) (len_cells cellS 3 (fun _ => rfl) _) hn
  rwa [take_cells cellS 3 (fun _ => rfl)] at this
theorem src_wait {n : Nat} (hn : n ≤ x.X.wait.length) : RigSrc h 1 (rs x.c n x.kc) n ((x.X.wait.take n).map .bool) := by
  have := src_of e (fun w hw => (hx w hw).c) (fun v hv => bools_flat hv) (by simp) (z := 1) hn
  rwa [Nat.mul_one, ← List.map_take] at this
omit hx in
theorem rig_of {T : Tab} {ty : TypeId} {p : Option Addr} {l k g o j : Nat} {cs : List Value} {u : Value} (hs : ∀ w, FzP S E w → SlcS S w p l k cs) (hp : p = some ⟨g, o, none⟩) (hr : ∃ r, lkR T ty = some r ∧ r.ty.agg = false) (hf : flat1 u = true) (hn : noTup u = true) (hc : cs[j]? = some u) :
    RigLd T h ty g (o + j) u := rigLd_abs e hr hf hn fun q w hw => by
  rcases hs w hw with ⟨_, _, h3⟩ | ⟨g', o', h1, _, h3⟩
  · subst h3; cases hc
  · subst hp
    cases h1
    exact h3 j u hc
omit hx in
theorem rigA_of {T : Tab} {ty : TypeId} {p : Option Addr} {l k g o j : Nat} {cs us : List Value} (hs : ∀ w, FzP S E w → SlcS S w p l k cs) (hp : p = some ⟨g, o, none⟩) (hr : ∃ r, lkR T ty = some r ∧ r.ty.agg = true ∧ us.length = r.size) (hf : ∀ u ∈ us, flat1 u = true) (hn : ∀ u ∈ us, leaf u = true) (hc : (cs.drop j).take us.length = us) :
    RigLd T h ty g (o + j) (.agg us.toArray) := ⟨us, let ⟨r, h1, h2, h3⟩ := hr; ⟨r, h1, .inr ⟨h2, rfl, h3, hn⟩⟩, fun F B w0 m n w H => by
  obtain ⟨g', s, _, ok⟩ := H.dom i _ e
  refine ⟨us, LR.refl_of fun u hu => (V1.flat (hf u hu)).2 rfl, fun q v hq => ?_⟩
  have hq' : cs[j + q]? = some v := by
    rw [← hc, List.getElem?_take] at hq
    split at hq
    · rwa [List.getElem?_drop] at hq
    · cases hq
  rcases hs w ok.2.2.2.2 with ⟨_, _, h3⟩ | ⟨g2, o2, h1, _, h3⟩
  · subst h3; cases hq'
  · subst hp
    cases h1
    have := h3 (j + q) v hq'
    rwa [← Nat.add_assoc] at this⟩
/-- A sector's part. -/
theorem rig_cell {T : Tab} {ty : TypeId} {g o j f : Nat} {c : Cv} {u : Value} (hp : x.a = some ⟨g, o, none⟩) (hc : x.X.now[j]? = some c) (hr : ∃ r, lkR T ty = some r ∧ r.ty.agg = false) (hf : flat1 u = true) (hn : noTup u = true) (hf3 : f < 3) (hu : (cellN c)[f]? = some u) : RigLd T h ty g (o + j * 3 + f) u := by
  rw [Nat.add_assoc]
  refine rig_of e (fun w hw => (hx w hw).a) hp hr hf hn ?_
  have := flat_sub (f := cellN) (n := 3) (fun _ => rfl) hc (o := j * 3) rfl
  have h2 := (subL_ok this).1
  rw [← h2, List.getElem?_take, if_pos hf3, List.getElem?_drop] at hu
  exact hu
/-- A sector as a whole. -/
theorem rig_whole {T : Tab} {ty : TypeId} {g o j : Nat} {c : Cv} (hp : x.a = some ⟨g, o, none⟩) (hc : x.X.now[j]? = some c) (hr : ∃ r, lkR T ty = some r ∧ r.ty.agg = true ∧ 3 = r.size) : RigLd T h ty g (o + j * 3) (.agg (cellN c).toArray) := by
  have h2 := (subL_ok (flat_sub (f := cellN) (n := 3) (fun _ => rfl) hc (o := j * 3) rfl)).1
  refine rigA_of e (fun w hw => (hx w hw).a) hp hr (fun u hu => cells_flat (l := [c]) (by simpa using hu)) (fun u hu => ?_) h2
  simp only [cellN, List.mem_cons, List.not_mem_nil, or_false] at hu
  rcases hu with rfl | rfl | rfl <;> rfl
/-- Whether a sector waits. -/
theorem rig_wait {T : Tab} {ty : TypeId} {g o j : Nat} {b : Bool} (hp : x.c = some ⟨g, o, none⟩) (hc : x.X.wait[j]? = some b) (hr : ∃ r, lkR T ty = some r ∧ r.ty.agg = false) : RigLd T h ty g (o + j * 1) (.bool b) :=
  rig_of e (fun w hw => (hx w hw).c) hp hr rfl rfl (by rw [Nat.mul_one, List.getElem?_map, hc]; rfl)
end
theorem plc_at {p : Option Addr} {l k : Nat} (h : Plc p l k) (hl : 0 < l) : ∃ g o, p = some ⟨g, o, none⟩ ∧ slcA ⟨wcode p, 0, unrig (some 3)⟩ = some ⟨g, o, none⟩ := by
  rcases h.ex with ⟨h0, _⟩ | ⟨g, o, rfl⟩
  · omega
  · exact ⟨g, o, rfl, (show weird (wcode (some ⟨g, o, none⟩)) = _ from weird_code _)⟩
theorem plc_no {p : Option Addr} {l k : Nat} (h : Plc p l k) : weird (wcode p) = none → l = 0 ∧ k = 0 := by
  rw [weird_code]
  rcases h.ex with h0 | ⟨g, o, rfl⟩
  · exact fun _ => h0
  · intro h; cases h
end Go.Proofs.Ytdgmjjidkaafaaa
namespace Go.Proofs.Ytdgmjjidkaafaaa
open Go.RowKit
set_option linter.unusedSimpArgs false
set_option linter.unusedVariables false
theorem size_bytes (s : ByteArray) : (bytesOf s).length = s.size := by rw [← strOf_size, strOf_bytesOf]
theorem good_len (s : ByteArray) : goodName s = (decide (1 ≤ s.size) && decide (s.size ≤ 16)) := by
  unfold goodName
  congr 1
  cases h : strEq s ⟨#[]⟩ with
  | true =>
    have h1 := congrArg List.length (strEq_true.1 h)
    rw [size_bytes] at h1
    have h2 : s.size = 0 := h1
    rw [h2]; rfl
  | false =>
    have h1 := strEq_false.1 h
    have h2 : s.size ≠ 0 := fun e => h1 (by
      have : (bytesOf s).length = 0 := by rw [size_bytes]; exact e
      rw [List.eq_nil_of_length_eq_zero this]; rfl)
    show (!false) = _
    rw [decide_eq_true (by omega)]; rfl
theorem good_yes {s : ByteArray} (h1 : ¬ (s.size : Int) < 1) (h2 : ¬ 16 < (s.size : Int)) : goodName s = true := by
  rw [good_len, decide_eq_true (by omega), decide_eq_true (by omega)]; rfl
theorem good_no {s : ByteArray} (h : (s.size : Int) < 1 ∨ 16 < (s.size : Int)) : goodName s = false := by
  rw [good_len]
  rcases h with h | h
  · rw [decide_eq_false (by omega)]; rfl
  · rw [Bool.and_eq_false_iff]; exact .inr (decide_eq_false (by omega))
section
variable {k : Dk} {s : ByteArray} {r : Bool}
theorem bs_bad (h : goodName s = false ∨ r = false) : begS k s r = (1, k) := by unfold begS; rw [if_pos h]
theorem bs_down (h1 : goodName s = true) (h2 : r = true) (h3 : k.down = true) : begS k s r = (10, k) := by unfold begS; rw [if_neg (by rw [h1, h2]; simp), if_pos h3]
theorem bs_ok (h1 : goodName s = true) (h2 : r = true) (h3 : k.down = false) (h4 : k.at' = 0) : begS k s r = (0, { k with ops := k.ops + 1 }) := by unfold begS; rw [if_neg (by rw [h1, h2]; simp), if_neg (by rw [h3]; simp), if_pos h4]
theorem bs_wait (h1 : goodName s = true) (h2 : r = true) (h3 : k.down = false) (h4 : 1 < k.at') : begS k s r = (0, { k with ops := k.ops + 1, at' := k.at' - 1 }) := by unfold begS; rw [if_neg (by rw [h1, h2]; simp), if_neg (by rw [h3]; simp), if_neg (by omega), if_pos h4]
theorem bs_off (h1 : goodName s = true) (h2 : r = true) (h3 : k.down = false) (h0 : k.at' ≠ 0) (h4 : ¬ 1 < k.at') (h5 : k.kind = 2) : begS k s r = (10, { k with ops := k.ops + 1, down := true, life := k.life + 1, at' := 0 }) := by
  unfold begS; rw [if_neg (by rw [h1, h2]; simp), if_neg (by rw [h3]; simp), if_neg h0, if_neg h4, if_pos h5]
theorem bs_more (h1 : goodName s = true) (h2 : r = true) (h3 : k.down = false) (h0 : k.at' ≠ 0) (h4 : ¬ 1 < k.at') (h5 : k.kind ≠ 2) (h6 : 0 < k.more) : begS k s r = (11, { k with ops := k.ops + 1, more := k.more - 1 }) := by
  unfold begS; rw [if_neg (by rw [h1, h2]; simp), if_neg (by rw [h3]; simp), if_neg h0, if_neg h4, if_neg h5, if_pos h6]
theorem bs_last (h1 : goodName s = true) (h2 : r = true) (h3 : k.down = false) (h0 : k.at' ≠ 0) (h4 : ¬ 1 < k.at') (h5 : k.kind ≠ 2) (h6 : ¬ 0 < k.more) : begS k s r = (11, { k with ops := k.ops + 1, at' := 0 }) := by
  unfold begS; rw [if_neg (by rw [h1, h2]; simp), if_neg (by rw [h3]; simp), if_neg h0, if_neg h4, if_neg h5, if_neg h6]
end
attribute [local irreducible] bytesOf strOf strEq strLt sfrom begS goodName
/-- The disk's struct, its files' row. -/
abbrev rdG (n c : Nat) (k : Dk) (q : RK) (cs : List Value) : HP := [(0, .own 87 (rdv 1 n c k q)), (1, .lst 91 5 c cs)]
theorem rnRefMade1 {p : Prop} (h : p := by refine ⟨?_, ?_, ?_⟩; (first | apply rR_tuple | apply rR_one rfl | exact rfl); all_goals (repeat' (first | (with_reducible (first | exact relH_nil | apply rn_lst | apply rn_own | apply rn_mp | apply rn_row | apply rn_abs | exact wo_nil)) | apply wo_keep rfl | apply wo_drop rfl | exact relH_nil | exact r1_flat rfl | exact r0_flat rfl | exact rl_nil | exact wo_nil | exact bk_old rfl | exact bk_new rfl | exact bk_nil rfl | apply rl_cons | (exact relL_still hvs) | exact relL_flat (flat_map (fun _ => rfl) _) | exact relL_flat flat_nil | apply relL_to | apply rn_lst | apply rn_own | apply rn_mp | apply rn_row | apply relH_view rfl | apply relH_lview rfl | apply relH_fact rfl | exact r1_rig | exact r0_rig | exact r1_rigs | exact r0_rigs | apply wo_keep rfl | apply wo_drop rfl | apply r1_agg | apply rn_ptr | apply rn_slice | apply rn_slice0 | apply rn_iface | apply rn_map | apply rn_ifacem | apply r0_map | apply r0_ifacem | apply r0_ptr | apply r0_slice | apply r0_slice0 | apply r0_iface)); (first | done | fail)) : p := h
theorem cvRefMade2 {p : Prop} (h : p := by have nw := True.intro; (repeat' (first | exact True.intro | (with_reducible exact rfl) | (with_reducible exact AbsLe.refl) | (guard_target =~ @Eq Nat _ _; first | exact rfl | omega) | (guard_target =~ List.map _ _ = []; exact rfl) | (first | exact covL_still rfl hvs | exact congrArg (Value.int _) (by (try dsimp only); omega) | (guard_target =~ @Eq Value _ _; exact rfl)) | (exact congrArg (Value.int _) (by omega)) | (exact covL_flat (flat_map (fun _ => rfl) _)) | (exact covL_flat flat_nil) | (refine covP_all ?_; (try clear nw); have nw := True.intro) | (refine covL_each ?_; (try clear nw); have nw := True.intro) | (refine ⟨?_, ?_⟩ <;> (try clear nw) <;> have nw := True.intro) | (guard_hyp nw : True; ((conv => whnf) <;> clear nw)))); (first | done | fail)) : p := h
set_option maxRecDepth 100000 in
theorem rclamp_c (n : Int) (hn : -9223372036854775808 ≤ n ∧ n ≤ 9223372036854775807) : CallOb Try.prog 46 [iv n] [] 0 (fun v hh m => ∃ z : Int, z = clampR n ∧ v = iv z ∧ hh = [] ∧ m = 0) := by
  refine call_spec tabOk mixed Try.call46 Try.func46 rfl [] (fun z : Int => z = clampR n) (fun z => iv z) (fun _ => []) (fun _ => 0) ?_ ?_
  · exact (Nat.le_of_ble_eq_true rfl)
  (repeat' ((try (conv => whnf)); first | (guard_target =~ ∃ (_ : Value), ∃ (_ : HP), ∃ (_ : HP), _; refine ⟨_, _, _, rnRefMade1, ?_⟩; (try (dsimp only [Nat.reduceAdd, List.cons_append, List.nil_append]))) | fail | (with_reducible refine chk_in (Nat.ble_eq_true_of_le (by omega)) ?_) | (with_reducible refine ifB_in ?_ ?_ <;> intro hb <;> (try simp only [decide_eq_true_eq, decide_eq_false_iff_not, Int.not_lt, Int.not_le, ne_eq, Decidable.not_not, Bool.not_eq_true', Bool.not_eq_false', gt_iff_lt, ge_iff_le] at hb) <;> (try (exfalso; omega))) | (with_reducible refine ⟨_, w64b _, ?_⟩) | (with_reducible refine ⟨_, w64 (by omega) (by omega), ?_⟩) | (with_reducible refine ⟨_, wu64 (by omega) (by omega), ?_⟩) | (with_reducible refine ⟨_, wu8 (by omega) (by omega), ?_⟩) | (with_reducible refine ⟨_, w64 (by (simp only [size_sfrom, ByteArray.size_extract, ByteArray.size_append, strOf_size, fixedL_length, lit_size, List.size_toArray, List.length_cons, List.length_nil, List.length_append, List.length_replicate]; omega)) (by (simp only [size_sfrom, ByteArray.size_extract, ByteArray.size_append, strOf_size, fixedL_length, lit_size, List.size_toArray, List.length_cons, List.length_nil, List.length_append, List.length_replicate]; omega)), ?_⟩) | (with_reducible refine ⟨_, rfl, ?_⟩) | (with_reducible refine ⟨rfl, ?_⟩) | (intro cap) | (with_reducible refine ⟨trivial, ?_⟩) | (guard_target =~ (planChk _ _ = true) ∧ _; refine ⟨by kernel_rfl, ?_⟩) | (guard_target =~ (_ ∧ _) ∧ _; refine ⟨by ((repeat (first | exact trivial | refine ⟨rfl, ?_⟩)); (first | done | fail)), ?_⟩) | (refine ⟨by omega, ?_⟩) | (refine ⟨by (simp only [size_sfrom, ByteArray.size_extract, ByteArray.size_append, strOf_size, fixedL_length, lit_size, List.size_toArray, List.length_cons, List.length_nil, List.length_append, List.length_replicate]; omega), ?_⟩) | (refine ⟨0, rfl, ?_⟩) | (refine ⟨1, rfl, ?_⟩) | (refine ⟨2, rfl, ?_⟩) | (refine ⟨3, rfl, ?_⟩) | (refine ⟨4, rfl, ?_⟩) | (refine ⟨5, rfl, ?_⟩) | (refine cell_at1 (by assumption) ?_) | (refine cell_in1 (by omega) (fun x hx => ?_)) | fail)) <;> (try (conv => whnf))
  all_goals first
    | ((refine Ends.go (n) ?_ [] (Fit.q cvRefMade2 (by rfl) (by rfl))); unfold clampR; omega)
    | ((refine Ends.go (0) ?_ [] (Fit.q cvRefMade2 (by rfl) (by rfl))); unfold clampR; omega)
    | ((refine Ends.go (16384) ?_ [] (Fit.q cvRefMade2 (by rfl) (by rfl))); unfold clampR; omega)
    | trace_state
set_option maxRecDepth 100000 in
theorem roff_c (n c : Nat) (k : Dk) (q : RK) (cs : List Value) (hvs : ∀ v ∈ cs, still1 v = true) (hk : 0 ≤ k.life ∧ k.life < 4611686018427387904) :
    CallOb Try.prog 57 [ptr 0] (rdG n c k q cs) 2 (fun v hh m => ∃ z : Dk, z = (offD ⟨k, []⟩).k ∧ v = .tuple ([] : List Value).toArray ∧ hh = rdG n c z ⟨q.at', 0, q.mo⟩ cs ∧ m = 2) := by
  refine call_spec tabOk mixed Try.call57 Try.func57 rfl [] (fun z : Dk => z = (offD ⟨k, []⟩).k) (fun z => .tuple ([] : List Value).toArray) (fun z => rdG n c z ⟨q.at', 0, q.mo⟩ cs) (fun _ => 2) ?_ ?_
  · exact (Nat.le_of_ble_eq_true rfl)
  obtain ⟨room, down, ops, life, at', kind, more⟩ := k
  dsimp only at hk
  (repeat' ((try (conv => whnf)); first | (guard_target =~ ∃ (_ : Value), ∃ (_ : HP), ∃ (_ : HP), _; refine ⟨_, _, _, rnRefMade1, ?_⟩; (try (dsimp only [Nat.reduceAdd, List.cons_append, List.nil_append]))) | fail | (with_reducible refine chk_in (Nat.ble_eq_true_of_le (by omega)) ?_) | (with_reducible refine ifB_in ?_ ?_ <;> intro hb <;> (try simp only [decide_eq_true_eq, decide_eq_false_iff_not, Int.not_lt, Int.not_le, ne_eq, Decidable.not_not, Bool.not_eq_true', Bool.not_eq_false', gt_iff_lt, ge_iff_le] at hb) <;> (try (exfalso; omega))) | (with_reducible refine ⟨_, w64b _, ?_⟩) | (with_reducible refine ⟨_, w64 (by omega) (by omega), ?_⟩) | (with_reducible refine ⟨_, wu64 (by omega) (by omega), ?_⟩) | (with_reducible refine ⟨_, wu8 (by omega) (by omega), ?_⟩) | (with_reducible refine ⟨_, w64 (by (simp only [size_sfrom, ByteArray.size_extract, ByteArray.size_append, strOf_size, fixedL_length, lit_size, List.size_toArray, List.length_cons, List.length_nil, List.length_append, List.length_replicate]; omega)) (by (simp only [size_sfrom, ByteArray.size_extract, ByteArray.size_append, strOf_size, fixedL_length, lit_size, List.size_toArray, List.length_cons, List.length_nil, List.length_append, List.length_replicate]; omega)), ?_⟩) | (with_reducible refine ⟨_, rfl, ?_⟩) | (with_reducible refine ⟨rfl, ?_⟩) | (intro cap) | (with_reducible refine ⟨trivial, ?_⟩) | (guard_target =~ (planChk _ _ = true) ∧ _; refine ⟨by kernel_rfl, ?_⟩) | (guard_target =~ (_ ∧ _) ∧ _; refine ⟨by ((repeat (first | exact trivial | refine ⟨rfl, ?_⟩)); (first | done | fail)), ?_⟩) | (refine ⟨by omega, ?_⟩) | (refine ⟨by (simp only [size_sfrom, ByteArray.size_extract, ByteArray.size_append, strOf_size, fixedL_length, lit_size, List.size_toArray, List.length_cons, List.length_nil, List.length_append, List.length_replicate]; omega), ?_⟩) | (refine ⟨0, rfl, ?_⟩) | (refine ⟨1, rfl, ?_⟩) | (refine ⟨2, rfl, ?_⟩) | (refine ⟨3, rfl, ?_⟩) | (refine ⟨4, rfl, ?_⟩) | (refine ⟨5, rfl, ?_⟩) | (refine cell_at1 (by assumption) ?_) | (refine cell_in1 (by omega) (fun x hx => ?_)) | fail)) <;> (try (conv => whnf))
  all_goals dsimp only [rdG, rdv]
  all_goals first
    | ((refine Ends.go ((⟨room, true, ops, life, 0, kind, more⟩ : Dk)) ?_ [] (Fit.q cvRefMade2 (by rfl) (by rfl))); unfold offD; dsimp only at hb ⊢; subst hb; rfl)
    | ((refine Ends.go ((⟨room, true, ops, life + 1, 0, kind, more⟩ : Dk)) ?_ [] (Fit.q cvRefMade2 (by rfl) (by rfl))); unfold offD; dsimp only at hb ⊢; subst hb; rfl)
    | trace_state
set_option maxRecDepth 100000 in
set_option maxHeartbeats 2000000 in
theorem rbegin_c (n c : Nat) (k : Dk) (q : RK) (s : ByteArray) (bad : Bool) (cs : List Value) (hvs : ∀ v ∈ cs, still1 v = true) (hk : k.Fit) (hq : q.Ok k) :
    CallOb Try.prog 72 [ptr 0, .string s, .bool bad] (rdG n c k q cs) 2 (fun v hh m => ∃ z : Int × Dk × RK, ((z.1, z.2.1) = begS k s (!bad) ∧ z.2.2.Ok z.2.1) ∧ v = iv z.1 ∧ hh = rdG n c z.2.1 z.2.2 cs ∧ m = 2) := by
  refine call_spec tabOk mixed Try.call72 Try.func72 rfl [] (fun z : Int × Dk × RK => (z.1, z.2.1) = begS k s (!bad) ∧ z.2.2.Ok z.2.1) (fun z => iv z.1) (fun z => rdG n c z.2.1 z.2.2 cs) (fun _ => 2) ?_ ?_
  · exact (Nat.le_of_ble_eq_true rfl)
  obtain ⟨room, down, ops, life, at', kind, more⟩ := k
  obtain ⟨ra, rk, rm⟩ := q
  obtain ⟨q1, q2, q3, q4, q5⟩ := hq
  unfold Dk.Fit at hk
  dsimp only at hk q1 q2 q3 q4 q5
  dsimp only [rdG, rdv]
  (repeat' ((try (conv => whnf)); first | (guard_target =~ ∃ (_ : Value), ∃ (_ : HP), ∃ (_ : HP), _; refine ⟨_, _, _, rnRefMade1, ?_⟩; (try (dsimp only [Nat.reduceAdd, List.cons_append, List.nil_append]))) | ((guard_target =~ CallOb _ 57 _ _ _ _; refine call_q (roff_c n c ⟨room, down, ops + 1, life, at', kind, more⟩ ⟨ra - 1, rk, rm⟩ cs hvs (by dsimp only; omega)) [(0, some 0), (1, some 1)] cvRefMade2 (by rfl) (by rfl) (by rfl) (fun v h1 n1 hp => ?_); obtain ⟨k2, hk2, rfl, rfl, rfl⟩ := hp); unfold offD at hk2; dsimp only at hk2; (try (dsimp only [Nat.reduceAdd, List.cons_append, List.nil_append]))) | (with_reducible refine chk_in (Nat.ble_eq_true_of_le (by omega)) ?_) | (with_reducible refine ifB_in ?_ ?_ <;> intro hb <;> (try simp only [decide_eq_true_eq, decide_eq_false_iff_not, Int.not_lt, Int.not_le, ne_eq, Decidable.not_not, Bool.not_eq_true', Bool.not_eq_false', gt_iff_lt, ge_iff_le] at hb) <;> (try (exfalso; omega))) | (with_reducible refine ⟨_, w64b _, ?_⟩) | (with_reducible refine ⟨_, w64 (by omega) (by omega), ?_⟩) | (with_reducible refine ⟨_, wu64 (by omega) (by omega), ?_⟩) | (with_reducible refine ⟨_, wu8 (by omega) (by omega), ?_⟩) | (with_reducible refine ⟨_, w64 (by (simp only [size_sfrom, ByteArray.size_extract, ByteArray.size_append, strOf_size, fixedL_length, lit_size, List.size_toArray, List.length_cons, List.length_nil, List.length_append, List.length_replicate]; omega)) (by (simp only [size_sfrom, ByteArray.size_extract, ByteArray.size_append, strOf_size, fixedL_length, lit_size, List.size_toArray, List.length_cons, List.length_nil, List.length_append, List.length_replicate]; omega)), ?_⟩) | (with_reducible refine ⟨_, rfl, ?_⟩) | (with_reducible refine ⟨rfl, ?_⟩) | (intro cap) | (with_reducible refine ⟨trivial, ?_⟩) | (guard_target =~ (planChk _ _ = true) ∧ _; refine ⟨by kernel_rfl, ?_⟩) | (guard_target =~ (_ ∧ _) ∧ _; refine ⟨by ((repeat (first | exact trivial | refine ⟨rfl, ?_⟩)); (first | done | fail)), ?_⟩) | (refine ⟨by omega, ?_⟩) | (refine ⟨by (simp only [size_sfrom, ByteArray.size_extract, ByteArray.size_append, strOf_size, fixedL_length, lit_size, List.size_toArray, List.length_cons, List.length_nil, List.length_append, List.length_replicate]; omega), ?_⟩) | (refine ⟨0, rfl, ?_⟩) | (refine ⟨1, rfl, ?_⟩) | (refine ⟨2, rfl, ?_⟩) | (refine ⟨3, rfl, ?_⟩) | (refine ⟨4, rfl, ?_⟩) | (refine ⟨5, rfl, ?_⟩) | (refine cell_at1 (by assumption) ?_) | (refine cell_in1 (by omega) (fun x hx => ?_)) | fail)) <;> (try (conv => whnf))
  all_goals first
    | (guard_target =~ Ends _ _ _ _ _ (packV [Value.int _ 1]) _; (refine Ends.go (((1, ⟨room, down, ops, life, at', kind, more⟩, ⟨ra, rk, rm⟩) : Int × Dk × RK)) ?_ [] (Fit.q cvRefMade2 (by rfl) (by rfl))); exact ⟨(by dsimp only; exact Eq.symm (bs_bad (by first | exact .inl (good_no (by omega)) | exact .inr (by rw [‹bad = true›]; rfl)))), ⟨q1, q2, q3, q4, q5⟩⟩)
    | (guard_target =~ Ends _ _ _ _ _ (packV [Value.int _ 10]) _; (refine Ends.go (((10, ⟨room, down, ops, life, at', kind, more⟩, ⟨ra, rk, rm⟩) : Int × Dk × RK)) ?_ [] (Fit.q cvRefMade2 (by rfl) (by rfl))); exact ⟨(by dsimp only; exact Eq.symm (bs_down (good_yes (by omega) (by omega)) (by rw [‹bad = false›]; rfl) ‹down = true›)), ⟨q1, q2, q3, q4, q5⟩⟩)
    | (guard_target =~ Ends _ _ _ _ _ (packV [Value.int _ 0]) _; (refine Ends.go (((0, ⟨room, down, ops + 1, life, at', kind, more⟩, ⟨ra, rk, rm⟩) : Int × Dk × RK)) ?_ [] (Fit.q cvRefMade2 (by rfl) (by rfl))); have h0 : at' = 0 := Classical.byContradiction fun h => (q2 h).2.2.1 (by omega); exact ⟨(by dsimp only; exact Eq.symm (bs_ok (good_yes (by omega) (by omega)) (by rw [‹bad = false›]; rfl) ‹down = false› h0)), ⟨q1, q2, q3, q4, q5⟩⟩)
    | (guard_target =~ Ends _ _ _ _ _ (packV [Value.int _ 0]) _; (refine Ends.go (((0, ⟨room, down, ops + 1, life, at' - 1, kind, more⟩, ⟨ra - 1, rk, rm⟩) : Int × Dk × RK)) ?_ [] (Fit.q cvRefMade2 (by rfl) (by rfl))); have h0 : at' ≠ 0 := fun h => absurd (q1 h) (by omega); have h1 := q2 h0; exact ⟨(by dsimp only; exact Eq.symm (bs_wait (good_yes (by omega) (by omega)) (by rw [‹bad = false›]; rfl) ‹down = false› (by dsimp only; omega))), ⟨fun h => absurd h (by dsimp only; omega), fun _ => ⟨by dsimp only; omega, h1.2⟩, by dsimp only; omega, q4, q5⟩⟩)
    | (guard_target =~ Ends _ _ _ _ _ (packV [Value.int _ 10]) _; (refine Ends.go (((10, k2, ⟨ra - 1, 0, rm⟩) : Int × Dk × RK)) ?_ [] (Fit.q cvRefMade2 (by rfl) (by rfl))); have h0 : at' ≠ 0 := fun h => absurd (q1 h) (by omega); have h1 := q2 h0; rw [if_neg (by rw [‹down = false›]; decide)] at hk2; exact ⟨(by subst hk2; exact Eq.symm (bs_off (good_yes (by omega) (by omega)) (by rw [‹bad = false›]; rfl) ‹down = false› h0 (by dsimp only; omega) (by dsimp only; omega))), ⟨fun _ => rfl, fun h => absurd (by subst hk2; rfl) h, (by dsimp only; omega), (by dsimp only; omega), q5⟩⟩)
    | (guard_target =~ Ends _ _ _ _ _ (packV [Value.int _ 11]) _; (refine Ends.go (((11, ⟨room, down, ops + 1, life, at', kind, more - 1⟩, ⟨1, rk, rm - 1⟩) : Int × Dk × RK)) ?_ [] (Fit.q cvRefMade2 (by rfl) (by rfl))); have h0 : at' ≠ 0 := fun h => absurd (q1 h) (by omega); have h1 := q2 h0; exact ⟨(by dsimp only; exact Eq.symm (bs_more (good_yes (by omega) (by omega)) (by rw [‹bad = false›]; rfl) ‹down = false› h0 (by dsimp only; omega) (by dsimp only; omega) (by dsimp only; omega))), ⟨fun h => absurd h h0, fun _ => ⟨(by dsimp only; omega), h1.2.1, h1.2.2.1, (by dsimp only; omega)⟩, (by dsimp only; omega), q4, (by dsimp only; omega)⟩⟩)
    | (guard_target =~ Ends _ _ _ _ _ (packV [Value.int _ 11]) _; (refine Ends.go (((11, ⟨room, down, ops + 1, life, 0, kind, more⟩, ⟨1, 0, rm⟩) : Int × Dk × RK)) ?_ [] (Fit.q cvRefMade2 (by rfl) (by rfl))); have h0 : at' ≠ 0 := fun h => absurd (q1 h) (by omega); have h1 := q2 h0; exact ⟨(by dsimp only; exact Eq.symm (bs_last (good_yes (by omega) (by omega)) (by rw [‹bad = false›]; rfl) ‹down = false› h0 (by dsimp only; omega) (by dsimp only; omega) (by dsimp only; omega))), ⟨fun _ => rfl, fun h => absurd rfl h, (by dsimp only; omega), (by dsimp only; omega), q5⟩⟩)
    | trace_state
/-! Where a file stands. -/
def PlaceR (E : List RF) (s : ByteArray) (z : Int) : Prop := (z = -1 ∧ ∀ e ∈ E, e.nm ≠ s) ∨ ∃ (q : Nat) (e : RF), E[q]? = some e ∧ e.nm = s ∧ z = (q : Int)
theorem cell_rf {E : List RF} {q j : Nat} {e : RF} {u : Value} (h : E[q]? = some e) (hj : j < 5) (hc : (fileR e)[j]? = some u) : (E.flatMap fileR)[0 + q * 5 + j]? = some u := by
  have := flat_sub (f := fileR) (n := 5) (fun _ => rfl) h (o := 0 + q * 5) (by omega)
  have h2 := (subL_ok this).1
  rw [← h2, List.getElem?_take, if_pos hj, List.getElem?_drop] at hc
  exact hc
theorem str_same {a b : ByteArray} (h : strEq a b = true) : a = b := bytesOf_inj.1 (strEq_true.1 h)
theorem str_other {a b : ByteArray} (h : strEq a b = false) : a ≠ b := fun e => strEq_false.1 h (by rw [e])
set_option maxRecDepth 100000 in
theorem rplace_c (E : List RF) (c : Nat) (dk : Dk) (q : RK) (s : ByteArray) (hl : E.length ≤ 8) :
    CallOb Try.prog 60 [ptr 0, .string s] (rdG E.length c dk q (E.flatMap fileR)) 2 (fun v hh m => ∃ z : Int, PlaceR E s z ∧ v = iv z ∧ hh = rdG E.length c dk q (E.flatMap fileR) ∧ m = 2) := by
  have hvs := files_still E
  refine call_spec tabOk mixed Try.call60 Try.func60 rfl [] (PlaceR E s) (fun z => iv z) (fun _ => rdG E.length c dk q (E.flatMap fileR)) (fun _ => 2) ?_ ?_
  · exact (Nat.le_of_ble_eq_true rfl)
  dsimp only [rdG, rdv]
  (repeat' ((try (conv => whnf)); first | (guard_target =~ ∃ (_ : Value), ∃ (_ : HP), ∃ (_ : HP), _; refine ⟨_, _, _, rnRefMade1, ?_⟩; (try (dsimp only [Nat.reduceAdd, List.cons_append, List.nil_append]))) | (guard_target =~ LoopOb _ _ _ _ _ _ _ _; refine loop_rule tabOk mixed [] 2 (fun k => [(0, ptr 0), (1, .string s), (5, iv (k : Nat))]) (fun k => rdG E.length c dk q (E.flatMap fileR)) (fun k => E.length - k) (fun k => k ≤ E.length ∧ ∀ j e, j < k → E[j]? = some e → e.nm ≠ s) (0) (⟨Nat.zero_le _, fun j e hj => absurd hj (Nat.not_lt_zero _)⟩) ⟨[(0, some 0), (1, some 1)], Sub.q cvRefMade2 (by rfl) (by rfl)⟩ (fun k hk => ?_)) | (refine ⟨k, rfl, by omega, ?_⟩) | (guard_hyp k : Nat; obtain ⟨x, hx⟩ : ∃ x, E[k]? = some x := ⟨_, List.getElem?_eq_getElem (by omega)⟩; first | refine onS_in (v := .string x.nm) (by show (E.flatMap fileR)[0 + k * 5 + 0]? = _; exact cell_rf hx (by decide) rfl) ?_ | refine onS_in (v := rs x.a x.X.now.length x.ka) (by show (E.flatMap fileR)[0 + k * 5 + 1]? = _; exact cell_rf hx (by decide) rfl) ?_) | (with_reducible refine chk_in (Nat.ble_eq_true_of_le (by omega)) ?_) | (with_reducible refine ifB_in ?_ ?_ <;> intro hb <;> (try simp only [decide_eq_true_eq, decide_eq_false_iff_not, Int.not_lt, Int.not_le, ne_eq, Decidable.not_not, Bool.not_eq_true', Bool.not_eq_false', gt_iff_lt, ge_iff_le] at hb) <;> (try (exfalso; omega))) | (with_reducible refine ⟨_, w64b _, ?_⟩) | (with_reducible refine ⟨_, w64 (by omega) (by omega), ?_⟩) | (with_reducible refine ⟨_, wu64 (by omega) (by omega), ?_⟩) | (with_reducible refine ⟨_, wu8 (by omega) (by omega), ?_⟩) | (with_reducible refine ⟨_, w64 (by (simp only [size_sfrom, ByteArray.size_extract, ByteArray.size_append, strOf_size, fixedL_length, lit_size, List.size_toArray, List.length_cons, List.length_nil, List.length_append, List.length_replicate]; omega)) (by (simp only [size_sfrom, ByteArray.size_extract, ByteArray.size_append, strOf_size, fixedL_length, lit_size, List.size_toArray, List.length_cons, List.length_nil, List.length_append, List.length_replicate]; omega)), ?_⟩) | (with_reducible refine ⟨_, rfl, ?_⟩) | (with_reducible refine ⟨rfl, ?_⟩) | (intro cap) | (with_reducible refine ⟨trivial, ?_⟩) | (guard_target =~ (planChk _ _ = true) ∧ _; refine ⟨by kernel_rfl, ?_⟩) | (guard_target =~ (_ ∧ _) ∧ _; refine ⟨by ((repeat (first | exact trivial | refine ⟨rfl, ?_⟩)); (first | done | fail)), ?_⟩) | (refine ⟨by omega, ?_⟩) | (refine ⟨by (simp only [size_sfrom, ByteArray.size_extract, ByteArray.size_append, strOf_size, fixedL_length, lit_size, List.size_toArray, List.length_cons, List.length_nil, List.length_append, List.length_replicate]; omega), ?_⟩) | (refine ⟨0, rfl, ?_⟩) | (refine ⟨1, rfl, ?_⟩) | (refine ⟨2, rfl, ?_⟩) | (refine ⟨3, rfl, ?_⟩) | (refine ⟨4, rfl, ?_⟩) | (refine ⟨5, rfl, ?_⟩) | (refine cell_at1 (by assumption) ?_) | (refine cell_in1 (by omega) (fun x hx => ?_)) | fail)) <;> (try (conv => whnf))
  all_goals first
    | ((refine Ends.go (((k : Nat) : Int)) ?_ [(1, some 1)] (Fit.q cvRefMade2 (by rfl) (by rfl))); exact .inr ⟨k, x, hx, str_same ‹strEq x.nm s = true›, rfl⟩)
    | ((refine Again.go (k + 1) ?_ (by (try dsimp only); omega) [(1, some 1)] (Sub.q cvRefMade2 (by rfl) (by rfl))); exact ⟨by omega, fun j e hj he => by
        rcases Nat.lt_or_ge j k with h | h
        · exact hk.2 j e h he
        · obtain rfl : j = k := by omega
          rw [hx] at he; cases he
          exact str_other ‹strEq x.nm s = false›⟩)
    | ((refine Ends.go (-1) ?_ [(1, some 1)] (Fit.q cvRefMade2 (by rfl) (by rfl))); exact .inl ⟨rfl, fun e he => by
        obtain ⟨j, hj⟩ := List.mem_iff_getElem?.1 he
        have := (List.getElem?_eq_some_iff.1 hj).1
        exact hk.2 j e (by omega) hj⟩)
    | trace_state
/-! The same as lists of names and files. -/
theorem place_none {E : List RF} {s : ByteArray} (h : ∀ e ∈ E, e.nm ≠ s) : findF (filesR E) s = none := find_none fun p hp => by
  obtain ⟨e, he, rfl⟩ := List.mem_map.1 hp
  exact h e he
theorem place_some {E : List RF} {s : ByteArray} (hs : Sorted (filesR E)) {q : Nat} {e : RF} (h : E[q]? = some e) (hn : e.nm = s) : findF (filesR E) s = some e.X :=
  mem_find hs (List.mem_map.2 ⟨e, List.mem_of_getElem? h, by rw [hn]⟩)
set_option maxRecDepth 100000 in
theorem rsize_c (E : List RF) (c : Nat) (dk : Dk) (q : RK) (s : ByteArray) (hl : E.length ≤ 8) (hs : Sorted (filesR E)) :
    CallOb Try.prog 32 [ptr 0, .string s] (rdG E.length c dk q (E.flatMap fileR)) 2 (fun v hh m => ∃ z : Int, z = sizeD ⟨dk, filesR E⟩ s ∧ v = iv z ∧ hh = rdG E.length c dk q (E.flatMap fileR) ∧ m = 2) := by
  have hvs := files_still E
  refine call_spec tabOk mixed Try.call32 Try.func32 rfl [] (fun z : Int => z = sizeD ⟨dk, filesR E⟩ s) (fun z => iv z) (fun _ => rdG E.length c dk q (E.flatMap fileR)) (fun _ => 2) ?_ ?_
  · exact (Nat.le_of_ble_eq_true rfl)
  dsimp only [rdG, rdv]
  (repeat' ((try (conv => whnf)); first | (guard_target =~ ∃ (_ : Value), ∃ (_ : HP), ∃ (_ : HP), _; refine ⟨_, _, _, rnRefMade1, ?_⟩; (try (dsimp only [Nat.reduceAdd, List.cons_append, List.nil_append]))) | (guard_target =~ CallOb _ 60 _ _ _ _; refine call_q (rplace_c E c dk q s hl) [(0, some 0), (1, some 1)] cvRefMade2 (by rfl) (by rfl) (by rfl) (fun v h1 n1 hp => ?_); obtain ⟨z, hz, rfl, rfl, rfl⟩ := hp; rcases hz with ⟨rfl, hz⟩ | ⟨k, x, hx, hnx, rfl⟩; all_goals (have hmk : 1 = 1 := rfl); all_goals (try (dsimp only [Nat.reduceAdd, List.cons_append, List.nil_append]))) | (refine ⟨k, rfl, (List.getElem?_eq_some_iff.1 hx).1, ?_⟩) | (refine onS_in (v := rs x.a x.X.now.length x.ka) (by show (E.flatMap fileR)[0 + k * 5 + 1]? = _; exact cell_rf hx (by decide) rfl) ?_) | (with_reducible refine chk_in (Nat.ble_eq_true_of_le (by omega)) ?_) | (with_reducible refine ifB_in ?_ ?_ <;> intro hb <;> (try simp only [decide_eq_true_eq, decide_eq_false_iff_not, Int.not_lt, Int.not_le, ne_eq, Decidable.not_not, Bool.not_eq_true', Bool.not_eq_false', gt_iff_lt, ge_iff_le] at hb) <;> (try (exfalso; omega))) | (with_reducible refine ⟨_, w64b _, ?_⟩) | (with_reducible refine ⟨_, w64 (by omega) (by omega), ?_⟩) | (with_reducible refine ⟨_, wu64 (by omega) (by omega), ?_⟩) | (with_reducible refine ⟨_, wu8 (by omega) (by omega), ?_⟩) | (with_reducible refine ⟨_, w64 (by (simp only [size_sfrom, ByteArray.size_extract, ByteArray.size_append, strOf_size, fixedL_length, lit_size, List.size_toArray, List.length_cons, List.length_nil, List.length_append, List.length_replicate]; omega)) (by (simp only [size_sfrom, ByteArray.size_extract, ByteArray.size_append, strOf_size, fixedL_length, lit_size, List.size_toArray, List.length_cons, List.length_nil, List.length_append, List.length_replicate]; omega)), ?_⟩) | (with_reducible refine ⟨_, rfl, ?_⟩) | (with_reducible refine ⟨rfl, ?_⟩) | (intro cap) | (with_reducible refine ⟨trivial, ?_⟩) | (guard_target =~ (planChk _ _ = true) ∧ _; refine ⟨by kernel_rfl, ?_⟩) | (guard_target =~ (_ ∧ _) ∧ _; refine ⟨by ((repeat (first | exact trivial | refine ⟨rfl, ?_⟩)); (first | done | fail)), ?_⟩) | (refine ⟨by omega, ?_⟩) | (refine ⟨by (simp only [size_sfrom, ByteArray.size_extract, ByteArray.size_append, strOf_size, fixedL_length, lit_size, List.size_toArray, List.length_cons, List.length_nil, List.length_append, List.length_replicate]; omega), ?_⟩) | (refine ⟨0, rfl, ?_⟩) | (refine ⟨1, rfl, ?_⟩) | (refine ⟨2, rfl, ?_⟩) | (refine ⟨3, rfl, ?_⟩) | (refine ⟨4, rfl, ?_⟩) | (refine ⟨5, rfl, ?_⟩) | (refine cell_at1 (by assumption) ?_) | (refine cell_in1 (by omega) (fun x hx => ?_)) | fail)) <;> (try (conv => whnf))
  all_goals first
    | (guard_hyp hx : E[k]? = some x; (refine Ends.go (((x.X.now.length : Nat) : Int)) ?_ [(1, some 1)] (Fit.q cvRefMade2 (by rfl) (by rfl))); unfold sizeD; rw [place_some hs hx hnx])
    | ((refine Ends.go (-1) ?_ [(1, some 1)] (Fit.q cvRefMade2 (by rfl) (by rfl))); unfold sizeD; rw [place_none hz])
    | trace_state
/-- How many sectors the first files have. -/
abbrev tots (E : List RF) (k : Nat) : Nat := total (filesR (E.take k))
theorem tots_next {E : List RF} {k : Nat} {x : RF} (h : E[k]? = some x) : tots E (k + 1) = tots E k + x.X.now.length := by
  unfold tots total
  rw [List.take_add_one, h]
  simp
theorem tots_le (E : List RF) (hx : ∀ e ∈ E, e.X.now.length ≤ 16384) : ∀ k, k ≤ E.length → tots E k ≤ k * 16384
  | 0, _ => by simp [tots, total]
  | k + 1, h => by
    obtain ⟨x, hk⟩ : ∃ x, E[k]? = some x := ⟨_, List.getElem?_eq_getElem (by omega)⟩
    have := tots_le E hx k (by omega)
    have := hx x (List.mem_of_getElem? hk)
    rw [tots_next hk]
    omega
set_option maxRecDepth 100000 in
theorem rtotal_c (E : List RF) (c : Nat) (dk : Dk) (q : RK) (hl : E.length ≤ 8) (hX : ∀ e ∈ E, e.X.now.length ≤ 16384) :
    CallOb Try.prog 73 [ptr 0] (rdG E.length c dk q (E.flatMap fileR)) 2 (fun v hh m => ∃ z : Int, z = (total (filesR E) : Nat) ∧ v = iv z ∧ hh = rdG E.length c dk q (E.flatMap fileR) ∧ m = 2) := by
  have hvs := files_still E
  have htl := tots_le E hX
  have ht0 : tots E 0 = 0 := rfl
  have ht1 := htl E.length (Nat.le_refl _)
  refine call_spec tabOk mixed Try.call73 Try.func73 rfl [] (fun z : Int => z = (total (filesR E) : Nat)) (fun z => iv z) (fun _ => rdG E.length c dk q (E.flatMap fileR)) (fun _ => 2) ?_ ?_
  · exact (Nat.le_of_ble_eq_true rfl)
  dsimp only [rdG, rdv]
  (repeat' ((try (conv => whnf)); first | (guard_target =~ ∃ (_ : Value), ∃ (_ : HP), ∃ (_ : HP), _; refine ⟨_, _, _, rnRefMade1, ?_⟩; (try (dsimp only [Nat.reduceAdd, List.cons_append, List.nil_append]))) | (guard_target =~ LoopOb _ _ _ _ _ _ _ _; refine loop_rule tabOk mixed [] 2 (fun k => [(0, ptr 0), (3, iv ((tots E k : Nat) : Int)), (4, iv ((k : Nat) : Int))]) (fun k => rdG E.length c dk q (E.flatMap fileR)) (fun k => E.length - k) (fun k => k ≤ E.length) (0) (Nat.zero_le _) ⟨[(0, some 0), (1, some 1)], Sub.q cvRefMade2 (by rfl) (by rfl)⟩ (fun k hk => ?_)) | (refine ⟨k, rfl, by omega, ?_⟩) | (obtain ⟨x, hx⟩ : ∃ x, E[k]? = some x := ⟨_, List.getElem?_eq_getElem (by omega)⟩; have hXx := hX x (List.mem_of_getElem? hx); have htk := htl k (by omega); refine onS_in (v := rs x.a x.X.now.length x.ka) (by show (E.flatMap fileR)[0 + k * 5 + 1]? = _; exact cell_rf hx (by decide) rfl) ?_) | (with_reducible refine chk_in (Nat.ble_eq_true_of_le (by omega)) ?_) | (with_reducible refine ifB_in ?_ ?_ <;> intro hb <;> (try simp only [decide_eq_true_eq, decide_eq_false_iff_not, Int.not_lt, Int.not_le, ne_eq, Decidable.not_not, Bool.not_eq_true', Bool.not_eq_false', gt_iff_lt, ge_iff_le] at hb) <;> (try (exfalso; omega))) | (with_reducible refine ⟨_, w64b _, ?_⟩) | (with_reducible refine ⟨_, w64 (by omega) (by omega), ?_⟩) | (with_reducible refine ⟨_, wu64 (by omega) (by omega), ?_⟩) | (with_reducible refine ⟨_, wu8 (by omega) (by omega), ?_⟩) | (with_reducible refine ⟨_, w64 (by (simp only [size_sfrom, ByteArray.size_extract, ByteArray.size_append, strOf_size, fixedL_length, lit_size, List.size_toArray, List.length_cons, List.length_nil, List.length_append, List.length_replicate]; omega)) (by (simp only [size_sfrom, ByteArray.size_extract, ByteArray.size_append, strOf_size, fixedL_length, lit_size, List.size_toArray, List.length_cons, List.length_nil, List.length_append, List.length_replicate]; omega)), ?_⟩) | (with_reducible refine ⟨_, rfl, ?_⟩) | (with_reducible refine ⟨rfl, ?_⟩) | (intro cap) | (with_reducible refine ⟨trivial, ?_⟩) | (guard_target =~ (planChk _ _ = true) ∧ _; refine ⟨by kernel_rfl, ?_⟩) | (guard_target =~ (_ ∧ _) ∧ _; refine ⟨by ((repeat (first | exact trivial | refine ⟨rfl, ?_⟩)); (first | done | fail)), ?_⟩) | (refine ⟨by omega, ?_⟩) | (refine ⟨by (simp only [size_sfrom, ByteArray.size_extract, ByteArray.size_append, strOf_size, fixedL_length, lit_size, List.size_toArray, List.length_cons, List.length_nil, List.length_append, List.length_replicate]; omega), ?_⟩) | (refine ⟨0, rfl, ?_⟩) | (refine ⟨1, rfl, ?_⟩) | (refine ⟨2, rfl, ?_⟩) | (refine ⟨3, rfl, ?_⟩) | (refine ⟨4, rfl, ?_⟩) | (refine ⟨5, rfl, ?_⟩) | (refine cell_at1 (by assumption) ?_) | (refine cell_in1 (by omega) (fun x hx => ?_)) | fail)) <;> (try (conv => whnf))
  all_goals first
    | (have ht := tots_next hx; (refine Again.go (k + 1) ?_ (by (try dsimp only); omega) [(1, some 1)] (Sub.q cvRefMade2 (by rfl) (by rfl))); omega)
    | ((refine Ends.go (((tots E k : Nat) : Int)) ?_ [(1, some 1)] (Fit.q cvRefMade2 (by rfl) (by rfl))); obtain rfl : k = E.length := (by omega); unfold tots; rw [List.take_length])
    | trace_state
theorem arm_no {k : Dk} {a b d : Int} (h : a < 1 ∨ ¬ (b = 1 ∨ b = 2)) : (armD ⟨k, []⟩ a b d).k.at' = 0 := by
  show (if b = 1 ∨ b = 2 then max a 0 else 0) = (0 : Int)
  by_cases hb : b = 1 ∨ b = 2
  · rw [if_pos hb]; omega
  · rw [if_neg hb]
set_option maxRecDepth 100000 in
theorem rarm_c (n c : Nat) (k : Dk) (q : RK) (a b d : Int) (cs : List Value) (hvs : ∀ v ∈ cs, still1 v = true) (ha : -9223372036854775808 ≤ a ∧ a ≤ 9223372036854775807) (hB : -9223372036854775808 ≤ b ∧ b ≤ 9223372036854775807) (hd : -9223372036854775808 ≤ d ∧ d ≤ 9223372036854775807) :
    CallOb Try.prog 56 [ptr 0, iv a, iv b, iv d] (rdG n c k q cs) 2 (fun v hh m => ∃ z : Dk × RK, (z.1 = (armD ⟨k, []⟩ a b d).k ∧ z.2.Ok z.1) ∧ v = .tuple ([] : List Value).toArray ∧ hh = rdG n c z.1 z.2 cs ∧ m = 2) := by
  refine call_spec tabOk mixed Try.call56 Try.func56 rfl [] (fun z : Dk × RK => z.1 = (armD ⟨k, []⟩ a b d).k ∧ z.2.Ok z.1) (fun z => .tuple ([] : List Value).toArray) (fun z => rdG n c z.1 z.2 cs) (fun _ => 2) ?_ ?_
  · exact (Nat.le_of_ble_eq_true rfl)
  dsimp only [rdG, rdv]
  (repeat' ((try (conv => whnf)); first | (guard_target =~ ∃ (_ : Value), ∃ (_ : HP), ∃ (_ : HP), _; refine ⟨_, _, _, rnRefMade1, ?_⟩; (try (dsimp only [Nat.reduceAdd, List.cons_append, List.nil_append]))) | fail | (with_reducible refine chk_in (Nat.ble_eq_true_of_le (by omega)) ?_) | (with_reducible refine ifB_in ?_ ?_ <;> intro hb <;> (try simp only [decide_eq_true_eq, decide_eq_false_iff_not, Int.not_lt, Int.not_le, ne_eq, Decidable.not_not, Bool.not_eq_true', Bool.not_eq_false', gt_iff_lt, ge_iff_le] at hb) <;> (try (exfalso; omega))) | (with_reducible refine ⟨_, w64b _, ?_⟩) | (with_reducible refine ⟨_, w64 (by omega) (by omega), ?_⟩) | (with_reducible refine ⟨_, wu64 (by omega) (by omega), ?_⟩) | (with_reducible refine ⟨_, wu8 (by omega) (by omega), ?_⟩) | (with_reducible refine ⟨_, w64 (by (simp only [size_sfrom, ByteArray.size_extract, ByteArray.size_append, strOf_size, fixedL_length, lit_size, List.size_toArray, List.length_cons, List.length_nil, List.length_append, List.length_replicate]; omega)) (by (simp only [size_sfrom, ByteArray.size_extract, ByteArray.size_append, strOf_size, fixedL_length, lit_size, List.size_toArray, List.length_cons, List.length_nil, List.length_append, List.length_replicate]; omega)), ?_⟩) | (with_reducible refine ⟨_, rfl, ?_⟩) | (with_reducible refine ⟨rfl, ?_⟩) | (intro cap) | (with_reducible refine ⟨trivial, ?_⟩) | (guard_target =~ (planChk _ _ = true) ∧ _; refine ⟨by kernel_rfl, ?_⟩) | (guard_target =~ (_ ∧ _) ∧ _; refine ⟨by ((repeat (first | exact trivial | refine ⟨rfl, ?_⟩)); (first | done | fail)), ?_⟩) | (refine ⟨by omega, ?_⟩) | (refine ⟨by (simp only [size_sfrom, ByteArray.size_extract, ByteArray.size_append, strOf_size, fixedL_length, lit_size, List.size_toArray, List.length_cons, List.length_nil, List.length_append, List.length_replicate]; omega), ?_⟩) | (refine ⟨0, rfl, ?_⟩) | (refine ⟨1, rfl, ?_⟩) | (refine ⟨2, rfl, ?_⟩) | (refine ⟨3, rfl, ?_⟩) | (refine ⟨4, rfl, ?_⟩) | (refine ⟨5, rfl, ?_⟩) | (refine cell_at1 (by assumption) ?_) | (refine cell_in1 (by omega) (fun x hx => ?_)) | fail)) <;> (try (conv => whnf))
  all_goals first
    | ((refine Ends.go (((armD ⟨⟨k.room, k.down, k.ops, k.life, k.at', k.kind, k.more⟩, []⟩ a b d).k, (⟨a, 0, d⟩ : RK))) ?_ [(1, some 1)] (Fit.q cvRefMade2 (by rfl) (by rfl))); exact ⟨rfl, fun _ => rfl, fun h => absurd (arm_no (by omega)) h, ha, (by dsimp only; omega), hd⟩)
    | ((refine Ends.go (((armD ⟨⟨k.room, k.down, k.ops, k.life, k.at', k.kind, k.more⟩, []⟩ a b d).k, (⟨a, b, d⟩ : RK))) ?_ [(1, some 1)] (Fit.q cvRefMade2 (by rfl) (by rfl))); have e1 : (armD ⟨k, []⟩ a b d).k.at' = a := (by show (if _ then _ else _) = a; rw [if_pos (by omega)]; omega); exact ⟨rfl, fun h => absurd (e1.symm.trans h) (by omega), fun _ => ⟨e1.symm, rfl, (by dsimp only; omega), rfl⟩, ha, hB, hd⟩)
    | trace_state
set_option maxRecDepth 100000 in
theorem rnew0_c (n : Int) (hn : -9223372036854775808 ≤ n ∧ n ≤ 9223372036854775807) :
    CallOb Try.prog 24 [iv n] [] 0 (fun v hh m => ∃ z : Int, z = clampR n ∧ v = ptr 10 ∧ hh = [(10, .own 87 (rdv 11 0 0 ⟨z, false, 0, 0, 0, 0, 0⟩ ⟨0, 0, 0⟩)), (11, .lst 91 5 0 [])] ∧ m = 20) := by
  refine call_spec tabOk mixed Try.call24 Try.func24 rfl [] (fun z : Int => z = clampR n) (fun z => ptr 10) (fun z => [(10, .own 87 (rdv 11 0 0 ⟨z, false, 0, 0, 0, 0, 0⟩ ⟨0, 0, 0⟩)), (11, .lst 91 5 0 [])]) (fun _ => 20) ?_ ?_
  · exact (Nat.le_of_ble_eq_true rfl)
  (repeat' ((try (conv => whnf)); first | (guard_target =~ ∃ (_ : Value), ∃ (_ : HP), ∃ (_ : HP), _; refine ⟨_, _, _, rnRefMade1, ?_⟩; (try (dsimp only [Nat.reduceAdd, List.cons_append, List.nil_append]))) | ((guard_target =~ CallOb _ 46 _ _ _ _; refine call_q (rclamp_c n hn) [] cvRefMade2 (by rfl) (by rfl) (by rfl) (fun v h1 n1 hp => ?_); obtain ⟨z, hz, rfl, rfl, rfl⟩ := hp); (try (dsimp only [Nat.reduceAdd, List.cons_append, List.nil_append]))) | (with_reducible refine chk_in (Nat.ble_eq_true_of_le (by omega)) ?_) | (with_reducible refine ifB_in ?_ ?_ <;> intro hb <;> (try simp only [decide_eq_true_eq, decide_eq_false_iff_not, Int.not_lt, Int.not_le, ne_eq, Decidable.not_not, Bool.not_eq_true', Bool.not_eq_false', gt_iff_lt, ge_iff_le] at hb) <;> (try (exfalso; omega))) | (with_reducible refine ⟨_, w64b _, ?_⟩) | (with_reducible refine ⟨_, w64 (by omega) (by omega), ?_⟩) | (with_reducible refine ⟨_, wu64 (by omega) (by omega), ?_⟩) | (with_reducible refine ⟨_, wu8 (by omega) (by omega), ?_⟩) | (with_reducible refine ⟨_, w64 (by (simp only [size_sfrom, ByteArray.size_extract, ByteArray.size_append, strOf_size, fixedL_length, lit_size, List.size_toArray, List.length_cons, List.length_nil, List.length_append, List.length_replicate]; omega)) (by (simp only [size_sfrom, ByteArray.size_extract, ByteArray.size_append, strOf_size, fixedL_length, lit_size, List.size_toArray, List.length_cons, List.length_nil, List.length_append, List.length_replicate]; omega)), ?_⟩) | (with_reducible refine ⟨_, rfl, ?_⟩) | (with_reducible refine ⟨rfl, ?_⟩) | (intro cap) | (with_reducible refine ⟨trivial, ?_⟩) | (guard_target =~ (planChk _ _ = true) ∧ _; refine ⟨by kernel_rfl, ?_⟩) | (guard_target =~ (_ ∧ _) ∧ _; refine ⟨by ((repeat (first | exact trivial | refine ⟨rfl, ?_⟩)); (first | done | fail)), ?_⟩) | (refine ⟨by omega, ?_⟩) | (refine ⟨by (simp only [size_sfrom, ByteArray.size_extract, ByteArray.size_append, strOf_size, fixedL_length, lit_size, List.size_toArray, List.length_cons, List.length_nil, List.length_append, List.length_replicate]; omega), ?_⟩) | (refine ⟨0, rfl, ?_⟩) | (refine ⟨1, rfl, ?_⟩) | (refine ⟨2, rfl, ?_⟩) | (refine ⟨3, rfl, ?_⟩) | (refine ⟨4, rfl, ?_⟩) | (refine ⟨5, rfl, ?_⟩) | (refine cell_at1 (by assumption) ?_) | (refine cell_in1 (by omega) (fun x hx => ?_)) | fail)) <;> (try (conv => whnf))
  all_goals first
    | ((refine Ends.go (z) ?_ [(10, some 0), (11, none)] (Fit.q cvRefMade2 (by rfl) (by rfl))); exact hz)
    | trace_state
end Go.Proofs.Ytdgmjjidkaafaaa
namespace Go.Proofs.Ytdgmjjidkaafaaa
open Go.RowKit
set_option linter.unusedSimpArgs false
set_option linter.unusedVariables false
/-- A file without sectors. -/
abbrev newR (s : ByteArray) : RF := ⟨s, fl0, none, none, none, 0, 0, 0⟩
def insP (E : List RF) (s : ByteArray) (p : Nat) : List RF := E.take p ++ newR s :: E.drop p
/-- The files that were gone through, with the new one, if its place was found. -/
def outL (E : List RF) (s : ByteArray) (i : Nat) : Option Nat → List RF
  | none => E.take i
  | some p => E.take p ++ newR s :: (E.drop p).take (i - p)
abbrev atV : Option Nat → Int
  | none => -1
  | some p => (p : Nat)
theorem out_0 (E : List RF) (s : ByteArray) : outL E s 0 none = [] := rfl
theorem out_more {E : List RF} {s : ByteArray} {i : Nat} {a : Option Nat} {x : RF} (hx : E[i]? = some x) (ha : ∀ p, a = some p → p < i) : outL E s (i + 1) a = outL E s i a ++ [x] := by
  cases a with
  | none => unfold outL; rw [List.take_add_one, hx]; rfl
  | some p =>
    have := ha p rfl
    unfold outL
    dsimp only
    rw [show i + 1 - p = (i - p) + 1 by omega, List.take_add_one, List.getElem?_drop, show p + (i - p) = i by omega, hx, List.append_assoc]
    rfl
theorem out_new {E : List RF} {s : ByteArray} {i : Nat} {x : RF} (hx : E[i]? = some x) : outL E s (i + 1) (some i) = outL E s i none ++ [newR s, x] := by
  unfold outL
  dsimp only
  rw [show i + 1 - i = 0 + 1 by omega, List.take_add_one, List.getElem?_drop, Nat.add_zero, hx]
  rfl
theorem out_end {E : List RF} {s : ByteArray} {p : Nat} : outL E s E.length (some p) = insP E s p := by
  unfold outL insP
  dsimp only
  rw [List.take_of_length_le (l := E.drop p) (by rw [List.length_drop]; omega)]
theorem ins_end (E : List RF) (s : ByteArray) : insP E s E.length = outL E s E.length none ++ [newR s] := by
  unfold insP outL
  rw [List.take_length, List.drop_length]
theorem out_len {E : List RF} {s : ByteArray} {i : Nat} {a : Option Nat} (hi : i ≤ E.length) (ha : ∀ p, a = some p → p < i) : (outL E s i a).length = if a = none then i else i + 1 := by
  cases a with
  | none => unfold outL; rw [if_pos rfl, List.length_take]; omega
  | some p =>
    have := ha p rfl
    unfold outL
    rw [if_neg (by simp), List.length_append, List.length_cons, List.length_take, List.length_take, List.length_drop]
    omega
theorem ins_len {E : List RF} {s : ByteArray} {p : Nat} (hp : p ≤ E.length) : (insP E s p).length = E.length + 1 := by
  unfold insP
  rw [List.length_append, List.length_cons, List.length_take, List.length_drop]
  omega
theorem ins_at {E : List RF} {s : ByteArray} {p : Nat} (hp : p ≤ E.length) : (insP E s p)[p]? = some (newR s) := by
  unfold insP
  rw [List.getElem?_append_right (by rw [List.length_take]; omega), List.length_take, Nat.min_eq_left hp, Nat.sub_self]
  rfl
theorem cov_rf {np : Nat} {L : IdMap} (e : RF) : LR (cov1 np L) (fileR e) (fileR e) := ⟨rfl, ⟨rfl, rfl, rfl, rfl, rfl⟩, ⟨rfl, rfl, rfl, rfl, rfl⟩, ⟨rfl, rfl, rfl, rfl, rfl⟩, rfl, trivial⟩
theorem cov_rfs {np : Nat} {L : IdMap} : ∀ E : List RF, LR (cov1 np L) (E.flatMap fileR) (E.flatMap fileR)
  | [] => trivial
  | e :: E => by rw [List.flatMap_cons]; exact (cov_rf e).append (cov_rfs E)
/-- Files that stand for themselves, and other elements. -/
theorem covL_rf {np : Nat} {L : IdMap} {cs0 cs a b0 b : List Value} {E : List RF} (e0 : cs0 = a ++ b0) (e : cs = a ++ b) (ha : a = E.flatMap fileR) (hb : LR (cov1 np L) b0 b) : covL np L cs0 cs := by
  subst e0 e ha
  exact .inr ((cov_rfs E).append hb)
section
variable {np : Nat} {L : IdMap} {E : List RF} {s : ByteArray} {i : Nat} {x : RF} {l1 l2 : List Value}
theorem cov_ins2 (hx : E[i]? = some x) (h1 : LR (cov1 np L) (fileR (newR s)) l1) (h2 : LR (cov1 np L) (fileR x) l2) : covL np L ((outL E s (i + 1) (some i)).flatMap fileR) (((outL E s i none).flatMap fileR ++ l1) ++ l2) := by
  rw [out_new hx, List.append_assoc]
  exact covL_rf (E := outL E s i none) (b0 := fileR (newR s) ++ fileR x) (by simp only [List.flatMap_append, List.flatMap_cons, List.flatMap_nil, List.append_nil]) rfl rfl (h1.append h2)
theorem cov_more {a : Option Nat} (hx : E[i]? = some x) (hlt : ∀ p, a = some p → p < i) (h2 : LR (cov1 np L) (fileR x) l2) : covL np L ((outL E s (i + 1) a).flatMap fileR) ((outL E s i a).flatMap fileR ++ l2) := by
  rw [out_more hx hlt]
  exact covL_rf (E := outL E s i a) (b0 := fileR x) (by simp only [List.flatMap_append, List.flatMap_cons, List.flatMap_nil, List.append_nil]) rfl rfl h2
theorem cov_end (h1 : LR (cov1 np L) (fileR (newR s)) l1) : covL np L ((insP E s E.length).flatMap fileR) ((outL E s E.length none).flatMap fileR ++ l1) := by
  rw [ins_end]
  exact covL_rf (E := outL E s E.length none) (b0 := fileR (newR s)) (by simp only [List.flatMap_append, List.flatMap_cons, List.flatMap_nil, List.append_nil]) rfl rfl h1
theorem cov_out {p : Nat} : covL np L ((insP E s p).flatMap fileR) ((outL E s E.length (some p)).flatMap fileR) := by
  rw [out_end]
  exact covL_still rfl (files_still _)
end
theorem len_rf1 {E : List RF} {l : List Value} (h : l.length = 5) : (E.flatMap fileR ++ l).length = (E.length + 1) * 5 := by
  rw [List.length_append, len_cells fileR 5 (fun _ => rfl), h]; omega
attribute [local irreducible] bytesOf strOf strEq strLt sfrom begS goodName
structure MI where
  i : Nat
  a : Option Nat
  c : Nat
  v : Int
structure MIR (E : List RF) (s : ByteArray) (k : MI) : Prop where
  le : k.i ≤ E.length
  lt : ∀ p, k.a = some p → p < k.i
  at1 : ∀ p x, k.a = some p → E[p]? = some x → strLt s x.nm = true
  no : ∀ j x, (j < k.i ∧ ∀ p, k.a = some p → j < p) → E[j]? = some x → strLt s x.nm = false
  ca : (outL E s k.i k.a).length ≤ k.c
  v : k.v = atV k.a
/-- Where the file stands, that was there or was put in. -/
def MadeR (E : List RF) (s : ByteArray) (z : Nat × List RF) : Prop :=
  (z.2 = E ∧ ∃ x, E[z.1]? = some x ∧ x.nm = s) ∨ ((∀ e ∈ E, e.nm ≠ s) ∧ z.1 ≤ E.length ∧ z.2 = insP E s z.1 ∧ (∀ x, E[z.1]? = some x → strLt s x.nm = true) ∧ ∀ j x, j < z.1 → E[j]? = some x → strLt s x.nm = false)
theorem cvRefMade3 {p : Prop} (h : p := by have nw := True.intro; (repeat' (first | exact True.intro | (with_reducible exact rfl) | (with_reducible exact AbsLe.refl) | (guard_target =~ @Eq Nat _ _; first | exact rfl | omega) | (guard_target =~ List.map _ _ = []; exact rfl) | (first | (guard_target =~ @Eq Nat _ _; dsimp only; omega) | (guard_target =~ covL _ _ _ _; guard_hyp mkN : 1 = 1; apply cov_ins2 hx <;> (try clear nw) <;> have nw := True.intro) | (guard_target =~ covL _ _ _ _; apply cov_more hx hlt <;> (try clear nw) <;> have nw := True.intro) | (guard_target =~ covL _ _ _ _; apply cov_end <;> (try clear nw) <;> have nw := True.intro) | exact cov_out | exact covL_still rfl (files_still _) | exact congrArg (Value.int _) (by (try dsimp only); omega) | (guard_target =~ @Eq Value _ _; exact rfl)) | (exact congrArg (Value.int _) (by omega)) | (exact covL_flat (flat_map (fun _ => rfl) _)) | (exact covL_flat flat_nil) | (refine covP_all ?_; (try clear nw); have nw := True.intro) | (refine covL_each ?_; (try clear nw); have nw := True.intro) | (refine ⟨?_, ?_⟩ <;> (try clear nw) <;> have nw := True.intro) | (guard_hyp nw : True; ((conv => whnf) <;> clear nw)))); (first | done | fail)) : p := h
theorem rnRefMade4 {p : Prop} (h : p := by refine ⟨?_, ?_, ?_⟩; (first | apply rR_tuple | apply rR_one rfl | exact rfl); all_goals (repeat' (first | (with_reducible (first | exact relH_nil | apply rn_lst | apply rn_own | apply rn_mp | apply rn_row | apply rn_abs | exact wo_nil)) | apply wo_keep rfl | apply wo_drop rfl | exact relH_nil | exact r1_flat rfl | exact r0_flat rfl | exact rl_nil | exact wo_nil | exact bk_old rfl | exact bk_new rfl | exact bk_nil rfl | apply rl_cons | (first | exact relL_still hvs | exact relL_still (files_still _)) | exact relL_flat (flat_map (fun _ => rfl) _) | exact relL_flat flat_nil | apply relL_to | apply rn_lst | apply rn_own | apply rn_mp | apply rn_row | apply relH_view rfl | apply relH_lview rfl | apply relH_fact rfl | exact r1_rig | exact r0_rig | exact r1_rigs | exact r0_rigs | apply wo_keep rfl | apply wo_drop rfl | apply r1_agg | apply rn_ptr | apply rn_slice | apply rn_slice0 | apply rn_iface | apply rn_map | apply rn_ifacem | apply r0_map | apply r0_ifacem | apply r0_ptr | apply r0_slice | apply r0_slice0 | apply r0_iface)); (first | done | fail)) : p := h
set_option maxRecDepth 100000 in
set_option maxHeartbeats 2000000 in
theorem rmade_c (E : List RF) (c : Nat) (dk : Dk) (q : RK) (s : ByteArray) (hl : E.length ≤ 8) (hcE : E.length ≤ c) :
    CallOb Try.prog 74 [ptr 0, .string s] (rdG E.length c dk q (E.flatMap fileR)) 2 (fun v hh m => ∃ z : (Nat × List RF) × Nat, (MadeR E s z.1 ∧ z.1.2.length ≤ z.2) ∧ v = iv (z.1.1 : Nat) ∧ hh = [(0, .own 87 (rdv 31 z.1.2.length z.2 dk q)), (31, .lst 91 5 z.2 (z.1.2.flatMap fileR))] ∧ m = 40) := by
  have hvs := files_still E
  refine call_spec tabOk mixed Try.call74 Try.func74 rfl [] (fun z : (Nat × List RF) × Nat => MadeR E s z.1 ∧ z.1.2.length ≤ z.2) (fun z => iv (z.1.1 : Nat)) (fun z => [(0, .own 87 (rdv 31 z.1.2.length z.2 dk q)), (31, .lst 91 5 z.2 (z.1.2.flatMap fileR))]) (fun _ => 40) ?_ ?_
  · exact (Nat.le_of_ble_eq_true rfl)
  dsimp only [rdG, rdv]
  (repeat' ((try (conv => whnf)); first | (guard_target =~ ∃ (_ : Value), ∃ (_ : HP), ∃ (_ : HP), _; refine ⟨_, _, _, rnRefMade4, ?_⟩; (try (dsimp only [Nat.reduceAdd, List.cons_append, List.nil_append]))) | (guard_target =~ CallOb _ 60 _ _ _ _; refine call_q (rplace_c E c dk q s hl) [(0, some 0), (1, some 1)] cvRefMade3 (by rfl) (by rfl) (by rfl) (fun v h1 n1 hp => ?_); obtain ⟨z, hz, rfl, rfl, rfl⟩ := hp; rcases hz with ⟨rfl, hz⟩ | ⟨k, x, hx, hnx, rfl⟩; all_goals (have hmk : 1 = 1 := rfl); all_goals (try (dsimp only [Nat.reduceAdd, List.cons_append, List.nil_append]))) | (guard_target =~ LoopOb _ _ _ _ _ _ _ _; refine loop_rule tabOk mixed [] 3 (fun k => [(0, ptr 0), (1, .string s), (6, mslice 2 (outL E s k.i k.a).length k.c), (7, iv k.v), (8, iv ((k.i : Nat) : Int))]) (fun k => [(0, .own 87 (rdv 1 E.length c dk q)), (1, .lst 91 5 c (E.flatMap fileR)), (2, .lst 91 5 k.c ((outL E s k.i k.a).flatMap fileR))]) (fun k => E.length - k.i) (fun k => MIR E s k) (⟨0, none, 0, -1⟩) (⟨Nat.zero_le _, (fun p h => by cases h), (fun p x h => by cases h), (fun j x h => absurd h.1 (Nat.not_lt_zero _)), Nat.zero_le _, rfl⟩) ⟨[(2, some 4)], Sub.q cvRefMade3 (by rfl) (by rfl)⟩ (fun k hk => ?_)) | (guard_hyp k : MI; rcases k with ⟨i, a, cp, av⟩; have h1 := hk.le; have hlt := hk.lt; have h3 := hk.at1; have h4 := hk.no; have h5 := hk.ca; have h6 := hk.v; clear hk; dsimp only at h1 hlt h3 h4 h5 h6 ⊢; have h7 := out_len (E := E) (s := s) h1 hlt; rcases a with _ | p; all_goals (simp only [reduceCtorEq, if_true, if_false] at h7); all_goals (first | (have h8 : av = -1 := h6) | (have h8 : av = ((p : Nat) : Int) := h6; have h9 := hlt p rfl)); all_goals (have mkH : 1 = 1 := rfl)) | (guard_hyp mkH : 1 = 1; obtain ⟨x, hx⟩ : ∃ x, E[i]? = some x := ⟨_, List.getElem?_eq_getElem (by omega)⟩; first | (refine onS_in (v := .string x.nm) (by show (E.flatMap fileR)[0 + i * 5 + 0]? = _; exact cell_rf hx (by decide) rfl) ?_; clear mkH; have mkG : 1 = 1 := rfl) | (refine onS_in (v := fileR x) (by show subL (E.flatMap fileR) (0 + i * 5) 5 = _; exact flat_sub (fun _ => rfl) hx (by omega)) ?_; clear mkH)) | (guard_hyp mkG : 1 = 1; refine onS_in (v := fileR x) (by show subL (E.flatMap fileR) (0 + i * 5) 5 = _; exact flat_sub (fun _ => rfl) hx (by omega)) ?_; clear mkG) | (refine ⟨i, rfl, by omega, ?_⟩) | (refine ⟨len_cells fileR 5 (fun _ => rfl) _, ?_⟩) | (refine ⟨len_rf1 rfl, ?_⟩) | (with_reducible refine chk_in (Nat.ble_eq_true_of_le (by omega)) ?_) | (with_reducible refine ifB_in ?_ ?_ <;> intro hb <;> (try simp only [decide_eq_true_eq, decide_eq_false_iff_not, Int.not_lt, Int.not_le, ne_eq, Decidable.not_not, Bool.not_eq_true', Bool.not_eq_false', gt_iff_lt, ge_iff_le] at hb) <;> (try (exfalso; omega))) | (with_reducible refine ⟨_, w64b _, ?_⟩) | (with_reducible refine ⟨_, w64 (by omega) (by omega), ?_⟩) | (with_reducible refine ⟨_, wu64 (by omega) (by omega), ?_⟩) | (with_reducible refine ⟨_, wu8 (by omega) (by omega), ?_⟩) | (with_reducible refine ⟨_, w64 (by (simp only [size_sfrom, ByteArray.size_extract, ByteArray.size_append, strOf_size, fixedL_length, lit_size, List.size_toArray, List.length_cons, List.length_nil, List.length_append, List.length_replicate]; omega)) (by (simp only [size_sfrom, ByteArray.size_extract, ByteArray.size_append, strOf_size, fixedL_length, lit_size, List.size_toArray, List.length_cons, List.length_nil, List.length_append, List.length_replicate]; omega)), ?_⟩) | (with_reducible refine ⟨_, rfl, ?_⟩) | (with_reducible refine ⟨rfl, ?_⟩) | (intro cap) | (with_reducible refine ⟨trivial, ?_⟩) | (guard_target =~ (planChk _ _ = true) ∧ _; refine ⟨by kernel_rfl, ?_⟩) | (guard_target =~ (_ ∧ _) ∧ _; refine ⟨by ((repeat (first | exact trivial | refine ⟨rfl, ?_⟩)); (first | done | fail)), ?_⟩) | (refine ⟨by omega, ?_⟩) | (refine ⟨by (simp only [size_sfrom, ByteArray.size_extract, ByteArray.size_append, strOf_size, fixedL_length, lit_size, List.size_toArray, List.length_cons, List.length_nil, List.length_append, List.length_replicate]; omega), ?_⟩) | (refine ⟨0, rfl, ?_⟩) | (refine ⟨1, rfl, ?_⟩) | (refine ⟨2, rfl, ?_⟩) | (refine ⟨3, rfl, ?_⟩) | (refine ⟨4, rfl, ?_⟩) | (refine ⟨5, rfl, ?_⟩) | (refine cell_at1 (by assumption) ?_) | (refine cell_in1 (by omega) (fun x hx => ?_)) | fail)) <;> (try (conv => whnf))
  all_goals first
    | (exfalso; omega)
    | (guard_hyp hb : strLt s x.nm = true; rename_i cn; have mkN : 1 = 1 := rfl; have e1 : (outL E s (i + 1) (some i)).length = (outL E s i none).length + 1 + 1 := (by rw [out_new hx, List.length_append]; rfl); (refine Again.go ((⟨i + 1, some i, cn, (i : Nat)⟩ : MI)) ?_ (by (try dsimp only); omega) [(2, some 6)] (Sub.q cvRefMade3 (by rfl) (by rfl))); exact ⟨by dsimp only; omega, (fun p hp => by cases hp; dsimp only; omega), (fun p y hp hy => by cases hp; rw [hx] at hy; cases hy; exact hb), (fun j y hj hy => h4 j y ⟨hj.2 i rfl, (fun p hp => by cases hp)⟩ hy), (by dsimp only; rw [out_new hx, List.length_append]; exact cap), rfl⟩)
    | (guard_hyp hb : strLt s x.nm = false; rename_i cn; have e1 : (outL E s (i + 1) none).length = (outL E s i none).length + 1 := (by rw [out_more hx hlt, List.length_append]; rfl); (refine Again.go ((⟨i + 1, none, cn, av⟩ : MI)) ?_ (by (try dsimp only); omega) [(2, some 4)] (Sub.q cvRefMade3 (by rfl) (by rfl))); exact ⟨by dsimp only; omega, (fun p hp => by cases hp), (fun p y hp => by cases hp), (fun j y hj hy => by
        rcases Nat.lt_or_ge j i with h | h
        · exact h4 j y ⟨h, hj.2⟩ hy
        · obtain rfl : j = i := by have := hj.1; dsimp only at this; omega
          rw [hx] at hy; cases hy; exact ‹strLt s x.nm = false›), (by dsimp only; rw [out_more hx hlt, List.length_append]; exact cap), h8⟩)
    | (guard_hyp hx : E[i]? = some x; rename_i cn; have e1 : (outL E s (i + 1) (some p)).length = (outL E s i (some p)).length + 1 := (by rw [out_more hx hlt, List.length_append]; rfl); (refine Again.go ((⟨i + 1, some p, cn, av⟩ : MI)) ?_ (by (try dsimp only); omega) [(2, some 4)] (Sub.q cvRefMade3 (by rfl) (by rfl))); exact ⟨by dsimp only; omega, (fun p' hp => by cases hp; dsimp only; omega), h3, (fun j y hj hy => h4 j y ⟨Nat.lt_trans (hj.2 p rfl) h9, hj.2⟩ hy), (by dsimp only; rw [out_more hx hlt, List.length_append]; exact cap), h8⟩)
    | (guard_hyp h7 : (outL E s i none).length = i; obtain rfl : i = E.length := (by omega); rename_i cn; have e1 := ins_len (E := E) (s := s) (p := E.length) (Nat.le_refl _); (refine Ends.go ((((E.length, insP E s E.length), cn) : (Nat × List RF) × Nat)) ?_ [(31, some 4)] (Fit.q cvRefMade3 (by rfl) (by rfl))); exact ⟨.inr ⟨hz, Nat.le_refl _, rfl, (fun x hx => by have := (List.getElem?_eq_some_iff.1 hx).1; dsimp only at this; omega), fun j x hj hx => h4 j x ⟨hj, (fun p hp => by cases hp)⟩ hx⟩, (by dsimp only; rw [ins_end, List.length_append]; exact cap)⟩)
    | (guard_hyp h9 : p < i; obtain rfl : i = E.length := (by omega); have e1 := ins_len (E := E) (s := s) (p := p) (by omega); (refine Ends.go ((((p, insP E s p), cp) : (Nat × List RF) × Nat)) ?_ [(31, some 2)] (Fit.q cvRefMade3 (by rfl) (by rfl))); exact ⟨.inr ⟨hz, by dsimp only; omega, rfl, (fun x hx => h3 p x rfl hx), fun j x hj hx => h4 j x ⟨Nat.lt_trans hj h9, (fun p' hp => by cases hp; exact hj)⟩ hx⟩, (by dsimp only; rw [← out_end]; exact h5)⟩)
    | (guard_hyp hnx : x.nm = s; (refine Ends.go ((((k, E), c) : (Nat × List RF) × Nat)) ?_ [(31, some 1)] (Fit.q cvRefMade3 (by rfl) (by rfl))); exact ⟨.inl ⟨rfl, x, hx, hnx⟩, hcE⟩)
    | trace_state
/-! A file is taken out. -/
theorem one_rf (E : List RF) : oneAll (E.flatMap fileR) = true := by
  unfold oneAll
  rw [List.all_eq_true]
  intro v hv
  obtain ⟨y, _, hy⟩ := List.mem_flatMap.1 hv
  simp only [fileR, List.mem_cons, List.not_mem_nil, or_false] at hy
  rcases hy with rfl | rfl | rfl | rfl | rfl <;> rfl
theorem sub_rtake {E : List RF} {p : Nat} (hp : p ≤ E.length) : subL (E.flatMap fileR) 0 (p * 5) = some ((E.take p).flatMap fileR) :=
  subL_in (by rw [List.drop_zero, take_cells fileR 5 (fun _ => rfl)]) (by rw [len_cells fileR 5 (fun _ => rfl), List.length_take]; omega) (fun _ => Nat.zero_le _)
theorem drop_cells {α : Type} (f : α → List Value) (z : Nat) (hf : ∀ a, (f a).length = z) : ∀ (l : List α) (n : Nat), (l.flatMap f).drop (n * z) = (l.drop n).flatMap f
  | [], n => by simp
  | a :: l, 0 => by simp
  | a :: l, n + 1 => by
    rw [List.flatMap_cons, List.drop_succ_cons, ← drop_cells f z hf l n, show (n + 1) * z = (f a).length + n * z by rw [hf, Nat.add_mul, Nat.one_mul]; omega, List.drop_length_add_append]
theorem sub_rdrop {E : List RF} {p n : Nat} (hp : p ≤ E.length) (hn : n = E.length - p) : subL (E.flatMap fileR) (0 + p * 5) (n * 5) = some ((E.drop p).flatMap fileR) := by
  subst hn
  refine subL_in ?_ (by rw [len_cells fileR 5 (fun _ => rfl), List.length_drop]) (fun _ => by rw [len_cells fileR 5 (fun _ => rfl)]; omega)
  rw [Nat.zero_add, drop_cells fileR 5 (fun _ => rfl), List.take_of_length_le (by rw [len_cells fileR 5 (fun _ => rfl), List.length_drop]; omega)]
def goneL (E : List RF) (p : Nat) : List RF := E.take p ++ E.drop (p + 1)
theorem gone_len {E : List RF} {p : Nat} (hp : p < E.length) : (goneL E p).length = E.length - 1 := by
  unfold goneL
  rw [List.length_append, List.length_take, List.length_drop]
  omega
theorem cov_gone {np : Nat} {L : IdMap} {E : List RF} {p : Nat} : covL np L ((goneL E p).flatMap fileR) (([] ++ (E.take p).flatMap fileR) ++ (E.drop (p + 1)).flatMap fileR) :=
  covL_still (by unfold goneL; rw [List.nil_append, List.flatMap_append]) (files_still _)
theorem cov_gone0 {np : Nat} {L : IdMap} {E : List RF} {p : Nat} (h : p + 1 = E.length) : covL np L ((goneL E p).flatMap fileR) (([] ++ (E.take p).flatMap fileR) ++ []) :=
  covL_still (by unfold goneL; rw [h, List.drop_length, List.nil_append, List.append_nil, List.append_nil]) (files_still _)
theorem cvRefMade5 {p : Prop} (h : p := by have nw := True.intro; (repeat' (first | exact True.intro | (with_reducible exact rfl) | (with_reducible exact AbsLe.refl) | (guard_target =~ @Eq Nat _ _; first | exact rfl | omega) | (guard_target =~ List.map _ _ = []; exact rfl) | (first | (guard_target =~ @Eq Nat _ _; (try dsimp only); omega) | exact cov_gone | exact cov_gone0 (by omega) | exact covL_still rfl (files_still _) | exact congrArg (Value.int _) (by (try dsimp only); omega) | (guard_target =~ @Eq Value _ _; exact rfl)) | (exact congrArg (Value.int _) (by omega)) | (exact covL_flat (flat_map (fun _ => rfl) _)) | (exact covL_flat flat_nil) | (refine covP_all ?_; (try clear nw); have nw := True.intro) | (refine covL_each ?_; (try clear nw); have nw := True.intro) | (refine ⟨?_, ?_⟩ <;> (try clear nw) <;> have nw := True.intro) | (guard_hyp nw : True; ((conv => whnf) <;> clear nw)))); (first | done | fail)) : p := h
set_option maxRecDepth 100000 in
theorem rgone_c (E : List RF) (c : Nat) (dk : Dk) (q : RK) (p : Nat) (hl : E.length ≤ 8) (hcE : E.length ≤ c) (hp : p < E.length) :
    CallOb Try.prog 76 [ptr 0, iv (p : Nat)] (rdG E.length c dk q (E.flatMap fileR)) 2 (fun v hh m => ∃ z : Nat, (goneL E p).length ≤ z ∧ v = .tuple ([] : List Value).toArray ∧ hh = [(0, .own 87 (rdv 31 (goneL E p).length z dk q)), (31, .lst 91 5 z ((goneL E p).flatMap fileR))] ∧ m = 40) := by
  have hvs := files_still E
  have hg := gone_len hp
  have hm0 : 1 = 1 := rfl
  refine call_spec tabOk mixed Try.call76 Try.func76 rfl [] (fun z : Nat => (goneL E p).length ≤ z) (fun z => .tuple ([] : List Value).toArray) (fun z => [(0, .own 87 (rdv 31 (goneL E p).length z dk q)), (31, .lst 91 5 z ((goneL E p).flatMap fileR))]) (fun _ => 40) ?_ ?_
  · exact (Nat.le_of_ble_eq_true rfl)
  dsimp only [rdG, rdv]
  (repeat' ((try (conv => whnf)); first | (guard_target =~ ∃ (_ : Value), ∃ (_ : HP), ∃ (_ : HP), _; refine ⟨_, _, _, rnRefMade4, ?_⟩; (try (dsimp only [Nat.reduceAdd, List.cons_append, List.nil_append]))) | (guard_target =~ ∃ (k : Nat), (k : Int) = ((p : Nat) : Int) ∧ _; refine ⟨p, rfl, ?_⟩) | (guard_target =~ ∃ (k : Nat), (k : Int) = ((p : Nat) : Int) + 1 ∧ _; refine ⟨p + 1, by omega, ?_⟩) | (guard_target =~ (_ < c → _) ∧ _; refine ⟨fun hlt => ?_, fun hge => ?_⟩; all_goals (have mkS : 1 = 1 := rfl)) | (guard_hyp hlt : p + 1 < c; guard_hyp mkS : 1 = 1; refine onS_in (sub_rdrop (E := E) (p := p + 1) (by omega) rfl) ?_; clear mkS; have mkT : 1 = 1 := rfl) | (guard_hyp hge : p + 1 = c; guard_hyp mkS : 1 = 1; refine onS_in (v := []) (by show subL (E.flatMap fileR) 0 (0 * 5) = _; exact sub_rtake (p := 0) (Nat.zero_le _)) ?_; clear mkS) | (guard_hyp hm0 : 1 = 1; refine onS_in (sub_rtake (E := E) (p := p) (by omega)) ?_; clear hm0) | (refine chk_in (one_rf _) ?_) | (refine ⟨(by rw [List.nil_append, len_cells fileR 5 (fun _ => rfl), List.length_take]; omega), ?_⟩) | (with_reducible refine chk_in (Nat.ble_eq_true_of_le (by omega)) ?_) | (with_reducible refine ifB_in ?_ ?_ <;> intro hb <;> (try simp only [decide_eq_true_eq, decide_eq_false_iff_not, Int.not_lt, Int.not_le, ne_eq, Decidable.not_not, Bool.not_eq_true', Bool.not_eq_false', gt_iff_lt, ge_iff_le] at hb) <;> (try (exfalso; omega))) | (with_reducible refine ⟨_, w64b _, ?_⟩) | (with_reducible refine ⟨_, w64 (by omega) (by omega), ?_⟩) | (with_reducible refine ⟨_, wu64 (by omega) (by omega), ?_⟩) | (with_reducible refine ⟨_, wu8 (by omega) (by omega), ?_⟩) | (with_reducible refine ⟨_, w64 (by (simp only [size_sfrom, ByteArray.size_extract, ByteArray.size_append, strOf_size, fixedL_length, lit_size, List.size_toArray, List.length_cons, List.length_nil, List.length_append, List.length_replicate]; omega)) (by (simp only [size_sfrom, ByteArray.size_extract, ByteArray.size_append, strOf_size, fixedL_length, lit_size, List.size_toArray, List.length_cons, List.length_nil, List.length_append, List.length_replicate]; omega)), ?_⟩) | (with_reducible refine ⟨_, rfl, ?_⟩) | (with_reducible refine ⟨rfl, ?_⟩) | (intro cap) | (with_reducible refine ⟨trivial, ?_⟩) | (guard_target =~ (planChk _ _ = true) ∧ _; refine ⟨by kernel_rfl, ?_⟩) | (guard_target =~ (_ ∧ _) ∧ _; refine ⟨by ((repeat (first | exact trivial | refine ⟨rfl, ?_⟩)); (first | done | fail)), ?_⟩) | (refine ⟨by omega, ?_⟩) | (refine ⟨by (simp only [size_sfrom, ByteArray.size_extract, ByteArray.size_append, strOf_size, fixedL_length, lit_size, List.size_toArray, List.length_cons, List.length_nil, List.length_append, List.length_replicate]; omega), ?_⟩) | (refine ⟨0, rfl, ?_⟩) | (refine ⟨1, rfl, ?_⟩) | (refine ⟨2, rfl, ?_⟩) | (refine ⟨3, rfl, ?_⟩) | (refine ⟨4, rfl, ?_⟩) | (refine ⟨5, rfl, ?_⟩) | (refine cell_at1 (by assumption) ?_) | (refine cell_in1 (by omega) (fun x hx => ?_)) | fail)) <;> (try (conv => whnf))
  all_goals first
    | (rename_i cn; (refine Ends.go (cn) ?_ [(31, some 4)] (Fit.q cvRefMade5 (by rfl) (by rfl))); omega)
    | trace_state
end Go.Proofs.Ytdgmjjidkaafaaa
