/- The document's disk over memory; what comes ahead of an operation; a file is put in, taken out. The document's disk: calls over the opened disk. -/
import Derived.Test.YtelolcagncgfpaaGreatEngW
import Derived.Test.YtelolcagncgfpaaGreatDiskFs
import Derived.Test.YtelolcagncgfpaaGreatCall
namespace Go.Proofs.YtelolcagncgfpaaGreat
open Go.RowKit
set_option linter.unusedSimpArgs false
set_option linter.unusedVariables false
abbrev rs (p : Option Addr) (l k : Nat) : Value := .slice (some ⟨wcode p, 0, some 3⟩) l k
theorem rs_V1 {m : BM} {p : Option Addr} {l k : Nat} {c : Value} : V1 m (rs p l k) c ↔ c = .slice p l k := (V1.of0 rfl).trans rsl_V0
structure RF where
 nm : ByteArray
 X : Fl
 a : Option Addr
 b : Option Addr
 c : Option Addr
 ka : Nat
 kb : Nat
 kc : Nat
structure Plc (p : Option Addr) (l k : Nat) : Prop where
 le : l ≤ k
 ex : (l = 0 ∧ k = 0) ∨ ∃ g o, p = some ⟨g, o, none⟩
structure RF.Cap (e : RF) : Prop where
 a : Plc e.a e.X.now.length e.ka
 b : Plc e.b e.X.safe.length e.kb
 c : Plc e.c e.X.wait.length e.kc
abbrev fileR (e : RF) : List Value := [.string e.nm, rs e.a e.X.now.length e.ka, rs e.b e.X.safe.length e.kb, rs e.c e.X.wait.length e.kc, .bool e.X.sure]
abbrev fileC (e : RF) : List Value := [.string e.nm, .slice e.a e.X.now.length e.ka, .slice e.b e.X.safe.length e.kb, .slice e.c e.X.wait.length e.kc, .bool e.X.sure]
abbrev cellN (c : Cv) : List Value := [.bool true, .string (c.getD ⟨#[]⟩), .bool c.isNone]
def tornS : Option Cv → Bool
 | some none => true
 | _ => false
abbrev cellS (c : Option Cv) : List Value := [.bool c.isSome, .string ((c.getD none).getD ⟨#[]⟩), .bool (tornS c)]
theorem cellS_some (c : Cv) : cellS (some c) = cellN c := by cases c <;> rfl
theorem fileR_still (e : RF) : ∀ v ∈ fileR e, still1 v = true := by
 intro v hv
 simp only [List.mem_cons, List.not_mem_nil, or_false] at hv
 rcases hv with rfl | rfl | rfl | rfl | rfl <;> rfl
theorem files_still (E : List RF) : ∀ v ∈ E.flatMap fileR, still1 v = true := fun v hv => by
 obtain ⟨e, _, h⟩ := List.mem_flatMap.1 hv
 exact fileR_still e v h
theorem fileR_C {m : BM} {e : RF} {x : List Value} : LR (V1 m) (fileR e) x ↔ x = fileC e := by
 constructor
 · match x with
   | [v1, v2, v3, v4, v5] =>
    rintro ⟨h1, h2, h3, h4, h5, _⟩
    rw [(V1.flat rfl).1 h1, rs_V1.1 h2, rs_V1.1 h3, rs_V1.1 h4, (V1.flat rfl).1 h5]
   | [] => exact fun h => h.elim
   | [_] => exact fun h => h.2.elim
   | [_, _] => exact fun h => h.2.2.elim
   | [_, _, _] => exact fun h => h.2.2.2.elim
   | [_, _, _, _] => exact fun h => h.2.2.2.2.elim
   | _ :: _ :: _ :: _ :: _ :: _ :: _ => exact fun h => h.2.2.2.2.2.elim
 · rintro rfl
   exact ⟨(V1.flat rfl).2 rfl, rs_V1.2 rfl, rs_V1.2 rfl, rs_V1.2 rfl, (V1.flat rfl).2 rfl, trivial⟩
theorem LR.split {R : Value → Value → Prop} : ∀ {a b x : List Value}, LR R (a ++ b) x → ∃ y z, x = y ++ z ∧ LR R a y ∧ LR R b z
 | [], _, x, h => ⟨[], x, rfl, trivial, h⟩
 | v :: a, b, c :: x, h => by
  obtain ⟨y, z, rfl, h1, h2⟩ := LR.split (a := a) (b := b) (x := x) h.2
  exact ⟨c :: y, z, rfl, ⟨h.1, h1⟩, h2⟩
theorem filesR_C {m : BM} : ∀ {E : List RF} {x : List Value}, LR (V1 m) (E.flatMap fileR) x ↔ x = E.flatMap fileC
 | [], x => by cases x <;> simp [LR]
 | e :: E, x => by
  rw [List.flatMap_cons, List.flatMap_cons]
  constructor
  · intro h
    obtain ⟨y, z, rfl, h1, h2⟩ := LR.split h
    rw [fileR_C.1 h1, filesR_C.1 h2]
  · rintro rfl
    exact (fileR_C.2 rfl).append (filesR_C.2 rfl)
def SlcS (S : Nat → Prop) (w : World) (p : Option Addr) (l k : Nat) (cells : List Value) : Prop :=
 (l = 0 ∧ k = 0 ∧ cells = []) ∨ ∃ g o, p = some ⟨g, o, none⟩ ∧ S g ∧ ∀ j u, cells[j]? = some u → w.cell? ⟨g, o + j, none⟩ = some u
theorem SlcS.same {S S' : Nat → Prop} {w w' : World} {p : Option Addr} {l k : Nat} {cells : List Value} (hS : ∀ b, S b → S' b) (hw : ∀ b, S b → w'.heap[b]? = w.heap[b]?) : SlcS S w p l k cells → SlcS S' w' p l k cells
 | .inl h => .inl h
 | .inr ⟨g, o, h1, h2, h3⟩ => .inr ⟨g, o, h1, hS g h2, fun j u hj => by
  rw [World.cell?_of_block (w := w) (w' := w') (a := ⟨g, o + j, none⟩) (hw g h2)]
  exact h3 j u hj⟩
structure FzOk (S : Nat → Prop) (w : World) (e : RF) : Prop where
 a : SlcS S w e.a e.X.now.length e.ka (e.X.now.flatMap cellN)
 b : SlcS S w e.b e.X.safe.length e.kb (e.X.safe.flatMap cellS)
 c : SlcS S w e.c e.X.wait.length e.kc (e.X.wait.map .bool)
theorem FzOk.same {S S' : Nat → Prop} {w w' : World} {e : RF} (hS : ∀ b, S b → S' b) (hw : ∀ b, S b → w'.heap[b]? = w.heap[b]?) (h : FzOk S w e) : FzOk S' w' e := ⟨h.a.same hS hw, h.b.same hS hw, h.c.same hS hw⟩
def FzP (S : Nat → Prop) (E : List RF) (w : World) : Prop := ∀ e ∈ E, FzOk S w e
theorem FzP.stab (S : Nat → Prop) (E : List RF) : Stab S (FzP S E) := fun w w' _ h H e he => (H e he).same (fun _ h => h) h
abbrev fzI (S : Nat → Prop) (E : List RF) : Itm := .abs true S (fun _ => FzP S E)
def RowN (w : World) (r : Rl) (ty : TypeId) (size : Nat) (l : List Value) : Prop :=
 (r.s = nilS ∧ r.k = 0 ∧ l = []) ∨ (r.s = 0 ∧ r.k ≤ maxLen ∧ ∃ cur, w.heap[r.g]? = some (.cells cur ty (0, 0)) ∧ cur.size = r.k * size ∧ cur.toList.take l.length = l ∧ l.length ≤ cur.size)
theorem RowN.same {w w' : World} {r : Rl} {ty : TypeId} {size : Nat} {l : List Value} (h : ∀ b ∈ r.bl, w'.heap[b]? = w.heap[b]?) : RowN w r ty size l → RowN w' r ty size l
 | .inl x => .inl x
 | .inr ⟨a, b, cur, c, d⟩ => .inr ⟨a, b, cur, (h r.g (by unfold Rl.bl; rw [if_neg (by rw [a]; exact zero_ne_nilS)]; simp)).trans c, d⟩
theorem RowN.item {F : Nat → Prop} {B : Nat} {m : BM} {w : World} {r : Rl} {ty : TypeId} {size : Nat} {cs l : List Value} (h : RowN w r ty size l) (hl : LR (V1 m) cs l) (hf : ∀ b ∈ r.bl, B ≤ b ∨ F b) : ItmOk F B m w r.g r.s (.lst ty size r.k cs) := by
 rcases h with ⟨a, b, rfl⟩ | ⟨a, b, cur, c, d, e, f⟩
 · refine .inl ⟨a, b, ?_⟩
   cases cs with
   | nil => rfl
   | cons _ _ => exact hl.elim
 · exact .inr ⟨a, hf r.g (by unfold Rl.bl; rw [if_neg (by rw [a]; exact zero_ne_nilS)]; simp), b, l, cur, hl, c, d, e, f⟩
theorem RowN.of {F : Nat → Prop} {B : Nat} {m : BM} {w : World} {g s k size : Nat} {ty : TypeId} {cs : List Value} (h : ItmOk F B m w g s (.lst ty size k cs)) : ∃ l, LR (V1 m) cs l ∧ RowN w ⟨g, s, k⟩ ty size l := by
 rcases h with ⟨a, b, rfl⟩ | ⟨a, _, b, l, cur, hl, c, d, e, f⟩
 · exact ⟨[], trivial, .inl ⟨a, b, rfl⟩⟩
 · exact ⟨l, hl, .inr ⟨a, b, cur, c, d, e, f⟩⟩
theorem RowN.slc {m : BM} {w : World} {r : Rl} {ty : TypeId} {size : Nat} {l : List Value} (h : RowN w r ty size l) {i : Nat} (hm : m i r.g r.s) {n : Nat} (hn : l = [] → n = 0) : V0 m (mslice i n r.k) (r.val n) := by
 refine ⟨r.g, r.s, hm, ?_⟩
 rcases h with ⟨a, b, e⟩ | ⟨a, _⟩
 · exact .inl ⟨a, hn e, b, by unfold Rl.val; rw [if_pos a]⟩
 · exact .inr ⟨by rw [a]; exact zero_ne_nilS, by unfold Rl.val; rw [if_neg (by rw [a]; exact zero_ne_nilS), a, sh_zero]⟩
structure RK where
 at' : Int
 kd : Int
 mo : Int
structure RK.Ok (r : RK) (k : Dk) : Prop where
 no : k.at' = 0 → r.kd = 0
 yes : k.at' ≠ 0 → r.at' = k.at' ∧ r.kd = k.kind ∧ r.kd ≠ 0 ∧ r.mo = k.more
 ba : -9223372036854775808 ≤ r.at' ∧ r.at' ≤ 9223372036854775807
 bk : -9223372036854775808 ≤ r.kd ∧ r.kd ≤ 9223372036854775807
 bm : -9223372036854775808 ≤ r.mo ∧ r.mo ≤ 9223372036854775807
abbrev rdv (i n c : Nat) (k : Dk) (r : RK) : List Value := [mslice i n c, iv k.room, .bool k.down, iv k.ops, iv k.life, iv r.at', iv r.kd, iv r.mo]
abbrev filesR (E : List RF) : Fs := E.map fun e => (e.nm, e.X)
structure RefAt (S : Nat → Prop) (D : DM) (g : Nat) (w : World) : Prop where
 ex : ∃ (E : List RF) (r : Rl) (q : RK) (S' : Nat → Prop), Blk w g 63 [r.val E.length, iv D.k.room, .bool D.k.down, iv D.k.ops, iv D.k.life, iv q.at', iv q.kd, iv q.mo].toArray ∧ RowN w r 76 5 (E.flatMap fileC) ∧ FzP S' E w ∧
  (∀ b, S' b → S b) ∧ S g ∧ (∀ b ∈ r.bl, S b) ∧ ¬ S' g ∧ (∀ b ∈ r.bl, b ≠ g ∧ ¬ S' b) ∧ q.Ok D.k ∧ filesR E = D.fs ∧ E.length ≤ r.k ∧ ∀ e ∈ E, e.Cap
theorem RefAt.stab (S : Nat → Prop) (D : DM) (g : Nat) : Stab S (RefAt S D g) := fun w w' hs h ⟨E, r, q, S', h1, h2, h3, s1, s2, s3, t⟩ =>
 ⟨E, r, q, S', (h g s2).trans h1, h2.same fun b hb => h b (s3 b hb), FzP.stab S' E w w' hs (fun b hb => h b (s1 b hb)) h3, s1, s2, s3, t⟩
abbrev refI (S : Nat → Prop) (D : DM) : Itm := .abs true S (RefAt S D)
theorem row_nil {r : Rl} {w : World} {ty : TypeId} {E : List RF} (_h : RowN w r ty 5 (E.flatMap fileC)) : E.flatMap fileC = [] → E.length = 0 := fun h => by
 cases E with
 | nil => rfl
 | cons e E => rw [List.flatMap_cons] at h; cases h
structure OpenR (D : DM) (E : List RF) (c : Nat) (q : RK) : Prop where
 fs : filesR E = D.fs
 rk : q.Ok D.k
 le : E.length ≤ c
 cap : ∀ e ∈ E, e.Cap
section
variable {F : Nat → Prop} {B : Nat} {w0 : World} {m : BM} {h : HP} {n : Nat} {w : World} (H : HRel F B w0 m h n w)
include H
theorem open_ref {i : Nat} {S : Nat → Prop} {D : DM} (e : lkH h i = some (refI S D)) {g : Nat} (hg : m i g 0) :
 ∃ (E : List RF) (c : Nat) (q : RK) (S' : Nat → Prop) (m' : BM), m.le m' ∧ OpenR D E c q ∧ 
  HRel F B w0 m' ((n + 1, fzI S' E) :: (n, .lst 76 5 c (E.flatMap fileR)) :: upH h i (.own 63 (rdv n E.length c D.k q))) (n + 2) w := by
 obtain ⟨hroot, hlt, hfen, _, ⟨E, r, q, S', h1, h2, h3, s1, s2, s3, s4, s5, h4, h5, h6, h7⟩⟩ := H.at e hg
 have fen := hfen rfl
 have hs : V0 (m.put n r.g r.s) (mslice n E.length r.k) (r.val E.length) := h2.slc (.inr ⟨rfl, rfl, rfl⟩) (row_nil h2)
 have A1 := (H.name r.g r.s).openAt e (g := g) (.inl hg) (.own 63 (rdv n E.length r.k D.k q)) rfl s2
  ⟨rfl, fen g s2, [r.val E.length, iv D.k.room, .bool D.k.down, iv D.k.ops, iv D.k.life, iv q.at', iv q.kd, iv q.mo], ⟨(V1.of0 rfl).2 hs, (V1.flat rfl).2 rfl, (V1.flat rfl).2 rfl, (V1.flat rfl).2 rfl, (V1.flat rfl).2 rfl, (V1.flat rfl).2 rfl, (V1.flat rfl).2 rfl, (V1.flat rfl).2 rfl, trivial⟩, h1⟩
 have A2 := A1.give (k := n) (g := r.g) (s := r.s) (.inr ⟨rfl, rfl, rfl⟩) (lkH_up_none e (H.none (Nat.le_refl _))) (.lst 76 5 r.k (E.flatMap fileR)) (h2.item (filesR_C.2 rfl) fun b hb => fen b (s3 b hb)) (by
  intro b hb hU
  have hb := (Rl.blk rfl rfl).1 hb
  rcases hU with hU | rfl
  · exact hU (s3 b hb)
  · exact (s5 b hb).1 rfl)
 have A3 := A2.add 0 nilS (fzI S' E) ⟨.inl ⟨rfl, rfl⟩, fun b hb => hlt b (s1 b hb), fun _ b hb => fen b (s1 b hb), FzP.stab S' E, h3⟩ (by
  intro b hb hU
  have hb : S' b := hb
  rcases hU with (hU | rfl) | hU
  · exact hU (s1 b hb)
  · exact s4 hb
  · exact (s5 b ((Rl.blk rfl rfl).1 hU)).2 hb)
 exact ⟨E, r.k, q, S', _, fun j q s x => .inl (.inl x), ⟨h5, h4, h6, h7⟩, A3.H⟩
theorem close_ref {i j f : Nat} {k : Dk} {q : RK} {E : List RF} {c : Nat} {S' : Nat → Prop} {fs : Fs} (ei : lkH h i = some (.own 63 (rdv j E.length c k q))) (ej : lkH h j = some (.lst 76 5 c (E.flatMap fileR))) (ef : lkH h f = some (fzI S' E))
 (hd : [i, j, f].Nodup) (hO : OpenR ⟨k, fs⟩ E c q) : ∃ S, HRel F B w0 m ((i, refI S ⟨k, fs⟩) :: rmHs [i, j, f] h) n w := by
 obtain ⟨g, hg, _, hfg, l, hl, hblk⟩ := H.place ei
 obtain ⟨gj, sj, hgj, okj⟩ := H.dom j _ ej
 obtain ⟨gf, sf, hgf, okf⟩ := H.dom f _ ef
 have zj := lst_mark okj
 have okj2 := okj
 obtain ⟨lr, hlr, hrow⟩ := RowN.of okj
 obtain rfl := filesR_C.1 hlr
 simp only [List.nodup_cons, List.mem_cons, List.not_mem_nil, or_false, not_or, List.nodup_nil, and_true, not_false_eq_true] at hd
 obtain ⟨⟨ij, if'⟩, jf⟩ := hd
 have hl' : l = [(⟨gj, sj, c⟩ : Rl).val E.length, iv k.room, .bool k.down, iv k.ops, iv k.life, iv q.at', iv q.kd, iv q.mo] := by
  match l, hl with
  | [v1, v2, v3, v4, v5, v6, v7, v8], ⟨q1, q2, q3, q4, q5, q6, q7, q8, _⟩ =>
   rw [slc_val H.fn ((V1.of0 rfl).1 q1) hgj zj, (V1.flat rfl).1 q2, (V1.flat rfl).1 q3, (V1.flat rfl).1 q4, (V1.flat rfl).1 q5, (V1.flat rfl).1 q6, (V1.flat rfl).1 q7, (V1.flat rfl).1 q8]
 subst hl'
 have n1 : ∀ b ∈ (⟨gj, sj, c⟩ : Rl).bl, (Itm.lst 76 5 c (E.flatMap fileR)).blk gj sj b := fun b hb => (Rl.blk (r := ⟨gj, sj, c⟩) rfl rfl).2 hb
 have hgi : (Itm.own 63 (rdv j E.length c k q)).blk g 0 g := ⟨zero_ne_nilS, rfl⟩
 refine ⟨fun b => b = g ∨ b ∈ (⟨gj, sj, c⟩ : Rl).bl ∨ S' b, H.closeAt [i, j, f] (i := i) (by simp) hg _ (RefAt _ ⟨k, fs⟩) ?_ (.inr rfl) (RefAt.stab _ _ _) ?_⟩
 · rintro b (rfl | hb | hb)
   · exact ⟨i, by simp, _, _, _, ei, rfl, hg, hgi⟩
   · exact ⟨j, by simp, _, gj, sj, ej, rfl, hgj, n1 b hb⟩
   · exact ⟨f, by simp, _, gf, sf, ef, rfl, hgf, hb⟩
 · refine ⟨E, ⟨gj, sj, c⟩, q, S', hblk, hrow, okf.2.2.2.2, fun b hb => .inr (.inr hb), .inl rfl, fun b hb => .inr (.inl hb), fun hb => ?_, fun b hb => ⟨fun e => ?_, fun hs => ?_⟩, hO.rk, hO.fs, hO.le, hO.cap⟩
   · exact H.sep i _ f _ g 0 gf sf g ei rfl ef if' hg hgf hgi hb
   · subst e
     exact H.sep i _ j _ b 0 gj sj b ei rfl ej ij hg hgj hgi (n1 b hb)
   · exact H.sep j _ f _ gj sj gf sf b ej rfl ef jf hgj hgf (n1 b hb) hs
theorem keep_list {a f : Nat} {ty : TypeId} {size k : Nat} {cs : List Value} {S : Nat → Prop} {E : List RF} (ea : lkH h a = some (.lst ty size k cs)) (ef : lkH h f = some (fzI S E)) (haf : a ≠ f) (hcs : ∀ v ∈ cs, flat1 v = true) :
 ∃ (p : Option Addr) (S' : Nat → Prop), (∀ b, S b → S' b) ∧ (∀ l, (cs = [] → l = 0) → (l = 0 ∧ k = 0) ∨ ∃ g o, p = some ⟨g, o, none⟩) ∧ (∀ l c, V0 m (mslice a l k) c → (cs = [] → l = 0) → c = .slice p l k) ∧
  (∀ l, (cs = [] → l = 0) → ∀ w', (∀ b, S' b → w'.heap[b]? = w.heap[b]?) → SlcS S' w' p l k cs) ∧ HRel F B w0 m ((f, fzI S' E) :: rmHs [a, f] h) n w := by
 obtain ⟨ga, sa, hga, oka⟩ := H.dom a _ ea
 obtain ⟨gf, sf, hgf, okf⟩ := H.dom f _ ef
 have za := lst_mark oka
 have ok2 := oka
 obtain ⟨l, hl, hrow⟩ := RowN.of oka
 have hl' : l = cs := LR.eq_of (fun v hv x hx => (V1.flat (hcs v hv)).1 hx) hl
 subst hl'
 have hbl : ∀ b, b ∈ (⟨ga, sa, k⟩ : Rl).bl → (Itm.lst ty size k l).blk ga sa b := fun b hb => (Rl.blk (r := ⟨ga, sa, k⟩) rfl rfl).2 hb
 refine ⟨if sa = nilS then weird ga else some ⟨ga, 0, none⟩, fun b => S b ∨ b ∈ (⟨ga, sa, k⟩ : Rl).bl, fun b hb => .inl hb, fun len hz => ?_, fun len c hv hz => ?_, fun len hz w' hw => ?_, ?_⟩
 · rcases hrow with ⟨_, hk, hl0⟩ | ⟨hs, _⟩
   · exact .inl ⟨hz hl0, hk⟩
   · dsimp only at hs
     exact .inr ⟨ga, 0, by rw [if_neg (by rw [hs]; exact zero_ne_nilS)]⟩
 · have := slc_val H.fn hv hga za
   rw [this]
   unfold Rl.val
   dsimp only
   by_cases hs : sa = nilS
   · rw [if_pos hs, if_pos hs]
     rcases hrow with ⟨_, hk, hl0⟩ | ⟨hx, _⟩
     · dsimp only at hk
       rw [hz hl0, hk]
     · dsimp only at hx
       rw [hx] at hs; exact absurd hs zero_ne_nilS
   · rw [if_neg hs, if_neg hs]
 · rcases hrow with ⟨hs, hk, hl0⟩ | ⟨hs, hk, cur, hc, h1, h2, h3⟩
   · exact .inl ⟨hz hl0, hk, hl0⟩
   · dsimp only at hs hc h1
     refine .inr ⟨ga, 0, by rw [if_neg (by rw [hs]; exact zero_ne_nilS)], .inr (by unfold Rl.bl; dsimp only; rw [if_neg (by rw [hs]; exact zero_ne_nilS)]; simp), fun j u hj => ?_⟩
     have hw' : w'.heap[ga]? = some (.cells cur ty (0, 0)) := (hw ga (.inr (by unfold Rl.bl; dsimp only; rw [if_neg (by rw [hs]; exact zero_ne_nilS)]; simp))).trans hc
     rw [cell_of_row w' ga _ cur ty (0, 0) hw', Nat.zero_add]
     rw [← h2, List.getElem?_take] at hj
     split at hj
     · simpa using hj
     · cases hj
 · refine H.closeAt [a, f] (i := f) (by simp) hgf _ (fun _ => FzP _ E) ?_ okf.1 (FzP.stab _ _) fun e he => (okf.2.2.2.2 e he).same (fun b hb => .inl hb) (fun _ _ => rfl)
   rintro b (hb | hb)
   · exact ⟨f, by simp, _, gf, sf, ef, rfl, hgf, hb⟩
   · exact ⟨a, by simp, _, ga, sa, ea, rfl, hga, hbl b hb⟩
theorem none_kept : HRel F B w0 (m.put n 0 nilS) ((n, fzI (fun _ => False) []) :: h) (n + 1) w :=
 H.pushAt (Below.refl _ w) (fun _ hb => hb.elim) ⟨.inl ⟨rfl, rfl⟩, fun _ hb => hb.elim, fun _ _ hb => hb.elim, FzP.stab _ _, fun e he => by cases he⟩
end
theorem cells_flat {v : Value} {l : List Cv} (h : v ∈ l.flatMap cellN) : flat1 v = true := by
 obtain ⟨c, _, h⟩ := List.mem_flatMap.1 h
 simp only [cellN, List.mem_cons, List.not_mem_nil, or_false] at h
 rcases h with rfl | rfl | rfl <;> rfl
theorem safes_flat {v : Value} {l : List (Option Cv)} (h : v ∈ l.flatMap cellS) : flat1 v = true := by
 obtain ⟨c, _, h⟩ := List.mem_flatMap.1 h
 simp only [cellS, List.mem_cons, List.not_mem_nil, or_false] at h
 rcases h with rfl | rfl | rfl <;> rfl
theorem bools_flat {v : Value} {l : List Bool} (h : v ∈ l.map .bool) : flat1 v = true := by obtain ⟨b, _, rfl⟩ := List.mem_map.1 h; rfl
theorem take_cells {α : Type} (f : α → List Value) (z : Nat) (hf : ∀ a, (f a).length = z) : ∀ (l : List α) (n : Nat), (l.flatMap f).take (n * z) = (l.take n).flatMap f
 | [], n => by simp
 | a :: l, 0 => by simp
 | a :: l, n + 1 => by
  rw [List.flatMap_cons, List.take_succ_cons, List.flatMap_cons, ← take_cells f z hf l n, show (n + 1) * z = (f a).length + n * z by rw [hf, Nat.add_mul, Nat.one_mul]; omega, List.take_length_add_append]
theorem len_cells {α : Type} (f : α → List Value) (z : Nat) (hf : ∀ a, (f a).length = z) (l : List α) : (l.flatMap f).length = l.length * z := flat_length (f := f) (n := z) hf l
theorem flat_sub {T : Type} {f : T → List Value} {l : List T} {n i o : Nat} {y : T} (hn : ∀ y, (f y).length = n) (hy : l[i]? = some y) (ho : o = i * n) : subL (l.flatMap f) o n = some (f y) := by
 subst ho
 have hs : l = l.take i ++ y :: l.drop (i + 1) := by rw [← drop_at hy, List.take_append_drop]
 have hi : i < l.length := (List.getElem?_eq_some_iff.1 hy).1
 have hl : ((l.take i).flatMap f).length = i * n := by rw [len_cells f n hn, List.length_take, Nat.min_eq_left (by omega)]
 refine subL_in ?_ (hn y) (fun h0 => ?_)
 · conv => lhs; rw [hs]
   rw [List.flatMap_append, List.flatMap_cons, List.drop_append_of_le_length (by omega), List.drop_of_length_le (by omega), List.nil_append, List.take_append_of_le_length (by rw [hn]; omega), List.take_of_length_le (by rw [hn]; omega)]
 · rw [len_cells f n hn, h0, Nat.mul_zero]; omega
theorem src_of {h : HP} {i : Nat} {S : Nat → Prop} {E : List RF} (e : lkH h i = some (fzI S E)) {p : Option Addr} {l k z n : Nat} {cs : List Value} (hs : ∀ w, FzP S E w → SlcS S w p l k cs) (hf : ∀ v ∈ cs, flat1 v = true) (hl : cs.length = l * z) (hn : n ≤ l) :
 RigSrc h z (rs p n k) n (cs.take (n * z)) := ⟨fun F B w0 m n' w cx H hx => by
 have hx : cx = .slice p n k := rs_V1.1 ((VR.of1 rfl).1 hx)
 subst hx
 obtain ⟨g, s, _, ok⟩ := H.dom i _ e
 rcases hs w ok.2.2.2.2 with ⟨h1, h2, h3⟩ | ⟨g, o, h1, _, h3⟩
 · obtain rfl : n = 0 := by omega
   subst h2 h3
   exact .inl ⟨rfl, by simp, p, rfl⟩
 · subst h1
   refine .inr ⟨g, o, k, _, rfl, LR.refl_of fun v hv => (V1.flat (hf v (List.mem_of_mem_take hv))).2 rfl, ?_, fun j v hj => ?_⟩
   · rw [List.length_take, hl]
     have := Nat.mul_le_mul_right z hn
     omega
   · rw [add_lit']
     rw [List.getElem?_take] at hj
     split at hj
     · exact h3 j v hj
     · cases hj⟩
section
variable {h : HP} {i : Nat} {S : Nat → Prop} {E : List RF} (e : lkH h i = some (fzI S E)) {x : RF} (hx : ∀ w, FzP S E w → FzOk S w x)
include e hx
theorem src_now {n : Nat} (hn : n ≤ x.X.now.length) : RigSrc h 3 (rs x.a n x.ka) n ((x.X.now.take n).flatMap cellN) := by
 have := src_of e (fun w hw => (hx w hw).a) (fun v hv => cells_flat hv) (len_cells cellN 3 (fun _ => rfl) _) hn
 rwa [take_cells cellN 3 (fun _ => rfl)] at this
theorem src_safe {n : Nat} (hn : n ≤ x.X.safe.length) : RigSrc h 3 (rs x.b n x.kb) n ((x.X.safe.take n).flatMap cellS) := by
 have := src_of e (fun w hw => (hx w hw).b) (fun v hv => safes_flat hv) (len_cells cellS 3 (fun _ => rfl) _) hn
 rwa [take_cells cellS 3 (fun _ => rfl)] at this
theorem src_wait {n : Nat} (hn : n ≤ x.X.wait.length) : RigSrc h 1 (rs x.c n x.kc) n ((x.X.wait.take n).map .bool) := by
 have := src_of e (fun w hw => (hx w hw).c) (fun v hv => bools_flat hv) (by simp) (z := 1) hn
 rwa [Nat.mul_one, ← List.map_take] at this
omit hx in
theorem rig_of {T : Tab} {ty : TypeId} {p : Option Addr} {l k g o j : Nat} {cs : List Value} {u : Value} (hs : ∀ w, FzP S E w → SlcS S w p l k cs) (hp : p = some ⟨g, o, none⟩) (hr : ∃ r, lkR T ty = some r ∧ r.ty.agg = false) (hf : flat1 u = true) (hn : noTup u = true) (hc : cs[j]? = some u) :
 RigLd T h ty g (o + j) u := rigLd_abs e hr hf hn fun q w hw => by
 rcases hs w hw with ⟨_, _, h3⟩ | ⟨g', o', h1, _, h3⟩
 · subst h3; cases hc
 · subst hp
   cases h1
   exact h3 j u hc
omit hx in
theorem rigA_of {T : Tab} {ty : TypeId} {p : Option Addr} {l k g o j : Nat} {cs us : List Value} (hs : ∀ w, FzP S E w → SlcS S w p l k cs) (hp : p = some ⟨g, o, none⟩) (hr : ∃ r, lkR T ty = some r ∧ r.ty.agg = true ∧ us.length = r.size) (hf : ∀ u ∈ us, flat1 u = true) (hn : ∀ u ∈ us, leaf u = true) (hc : (cs.drop j).take us.length = us) :
 RigLd T h ty g (o + j) (.agg us.toArray) := ⟨us, let ⟨r, h1, h2, h3⟩ := hr; ⟨r, h1, .inr ⟨h2, rfl, h3, hn⟩⟩, fun F B w0 m n w H => by
 obtain ⟨g', s, _, ok⟩ := H.dom i _ e
 refine ⟨us, LR.refl_of fun u hu => (V1.flat (hf u hu)).2 rfl, fun q v hq => ?_⟩
 have hq' : cs[j + q]? = some v := by
  rw [← hc, List.getElem?_take] at hq
  split at hq
  · rwa [List.getElem?_drop] at hq
  · cases hq
 rcases hs w ok.2.2.2.2 with ⟨_, _, h3⟩ | ⟨g2, o2, h1, _, h3⟩
 · subst h3; cases hq'
 · subst hp
   cases h1
   have := h3 (j + q) v hq'
   rwa [← Nat.add_assoc] at this⟩
theorem rig_cell {T : Tab} {ty : TypeId} {g o j f : Nat} {c : Cv} {u : Value} (hp : x.a = some ⟨g, o, none⟩) (hc : x.X.now[j]? = some c) (hr : ∃ r, lkR T ty = some r ∧ r.ty.agg = false) (hf : flat1 u = true) (hn : noTup u = true) (hf3 : f < 3) (hu : (cellN c)[f]? = some u) : RigLd T h ty g (o + j * 3 + f) u := by
 rw [Nat.add_assoc]
 refine rig_of e (fun w hw => (hx w hw).a) hp hr hf hn ?_
 have := flat_sub (f := cellN) (n := 3) (fun _ => rfl) hc (o := j * 3) rfl
 have h2 := (subL_ok this).1
 rw [← h2, List.getElem?_take, if_pos hf3, List.getElem?_drop] at hu
 exact hu
theorem rig_whole {T : Tab} {ty : TypeId} {g o j : Nat} {c : Cv} (hp : x.a = some ⟨g, o, none⟩) (hc : x.X.now[j]? = some c) (hr : ∃ r, lkR T ty = some r ∧ r.ty.agg = true ∧ 3 = r.size) : RigLd T h ty g (o + j * 3) (.agg (cellN c).toArray) := by
 have h2 := (subL_ok (flat_sub (f := cellN) (n := 3) (fun _ => rfl) hc (o := j * 3) rfl)).1
 refine rigA_of e (fun w hw => (hx w hw).a) hp hr (fun u hu => cells_flat (l := [c]) (by simpa using hu)) (fun u hu => ?_) h2
 simp only [cellN, List.mem_cons, List.not_mem_nil, or_false] at hu
 rcases hu with rfl | rfl | rfl <;> rfl
theorem rig_wait {T : Tab} {ty : TypeId} {g o j : Nat} {b : Bool} (hp : x.c = some ⟨g, o, none⟩) (hc : x.X.wait[j]? = some b) (hr : ∃ r, lkR T ty = some r ∧ r.ty.agg = false) : RigLd T h ty g (o + j * 1) (.bool b) :=
 rig_of e (fun w hw => (hx w hw).c) hp hr rfl rfl (by rw [Nat.mul_one, List.getElem?_map, hc]; rfl)
end
theorem plc_at {p : Option Addr} {l k : Nat} (h : Plc p l k) (hl : 0 < l) : ∃ g o, p = some ⟨g, o, none⟩ ∧ slcA ⟨wcode p, 0, unrig (some 3)⟩ = some ⟨g, o, none⟩ := by
 rcases h.ex with ⟨h0, _⟩ | ⟨g, o, rfl⟩
 · omega
 · exact ⟨g, o, rfl, (show weird (wcode (some ⟨g, o, none⟩)) = _ from weird_code _)⟩
theorem plc_no {p : Option Addr} {l k : Nat} (h : Plc p l k) : weird (wcode p) = none → l = 0 ∧ k = 0 := by
 rw [weird_code]
 rcases h.ex with h0 | ⟨g, o, rfl⟩
 · exact fun _ => h0
 · intro h; cases h
end Go.Proofs.YtelolcagncgfpaaGreat
namespace Go.Proofs.YtelolcagncgfpaaGreat
open Go.RowKit
set_option linter.unusedSimpArgs false
set_option linter.unusedVariables false
theorem size_bytes (s : ByteArray) : (bytesOf s).length = s.size := by rw [← strOf_size, strOf_bytesOf]
theorem good_len (s : ByteArray) : goodName s = (decide (1 ≤ s.size) && decide (s.size ≤ 16)) := by
 unfold goodName
 congr 1
 cases h : strEq s ⟨#[]⟩ with
 | true =>
  have h1 := congrArg List.length (strEq_true.1 h)
  rw [size_bytes] at h1
  have h2 : s.size = 0 := h1
  rw [h2]; rfl
 | false =>
  have h1 := strEq_false.1 h
  have h2 : s.size ≠ 0 := fun e => h1 (by
   have : (bytesOf s).length = 0 := by rw [size_bytes]; exact e
   rw [List.eq_nil_of_length_eq_zero this]; rfl)
  show (!false) = _
  rw [decide_eq_true (by omega)]; rfl
theorem good_yes {s : ByteArray} (h1 : ¬ (s.size : Int) < 1) (h2 : ¬ 16 < (s.size : Int)) : goodName s = true := by
 rw [good_len, decide_eq_true (by omega), decide_eq_true (by omega)]; rfl
theorem good_no {s : ByteArray} (h : (s.size : Int) < 1 ∨ 16 < (s.size : Int)) : goodName s = false := by
 rw [good_len]
 rcases h with h | h
 · rw [decide_eq_false (by omega)]; rfl
 · rw [Bool.and_eq_false_iff]; exact .inr (decide_eq_false (by omega))
section
variable {k : Dk} {s : ByteArray} {r : Bool}
theorem bs_bad (h : goodName s = false ∨ r = false) : begS k s r = (1, k) := by unfold begS; rw [if_pos h]
theorem bs_down (h1 : goodName s = true) (h2 : r = true) (h3 : k.down = true) : begS k s r = (10, k) := by unfold begS; rw [if_neg (by rw [h1, h2]; simp), if_pos h3]
theorem bs_ok (h1 : goodName s = true) (h2 : r = true) (h3 : k.down = false) (h4 : k.at' = 0) : begS k s r = (0, { k with ops := k.ops + 1 }) := by unfold begS; rw [if_neg (by rw [h1, h2]; simp), if_neg (by rw [h3]; simp), if_pos h4]
theorem bs_wait (h1 : goodName s = true) (h2 : r = true) (h3 : k.down = false) (h4 : 1 < k.at') : begS k s r = (0, { k with ops := k.ops + 1, at' := k.at' - 1 }) := by unfold begS; rw [if_neg (by rw [h1, h2]; simp), if_neg (by rw [h3]; simp), if_neg (by omega), if_pos h4]
theorem bs_off (h1 : goodName s = true) (h2 : r = true) (h3 : k.down = false) (h0 : k.at' ≠ 0) (h4 : ¬ 1 < k.at') (h5 : k.kind = 2) : begS k s r = (10, { k with ops := k.ops + 1, down := true, life := k.life + 1, at' := 0 }) := by
 unfold begS; rw [if_neg (by rw [h1, h2]; simp), if_neg (by rw [h3]; simp), if_neg h0, if_neg h4, if_pos h5]
theorem bs_more (h1 : goodName s = true) (h2 : r = true) (h3 : k.down = false) (h0 : k.at' ≠ 0) (h4 : ¬ 1 < k.at') (h5 : k.kind ≠ 2) (h6 : 0 < k.more) : begS k s r = (11, { k with ops := k.ops + 1, more := k.more - 1 }) := by
 unfold begS; rw [if_neg (by rw [h1, h2]; simp), if_neg (by rw [h3]; simp), if_neg h0, if_neg h4, if_neg h5, if_pos h6]
theorem bs_last (h1 : goodName s = true) (h2 : r = true) (h3 : k.down = false) (h0 : k.at' ≠ 0) (h4 : ¬ 1 < k.at') (h5 : k.kind ≠ 2) (h6 : ¬ 0 < k.more) : begS k s r = (11, { k with ops := k.ops + 1, at' := 0 }) := by
 unfold begS; rw [if_neg (by rw [h1, h2]; simp), if_neg (by rw [h3]; simp), if_neg h0, if_neg h4, if_neg h5, if_neg h6]
end
attribute [local irreducible] bytesOf strOf strEq strLt sfrom begS goodName
abbrev rdG (n c : Nat) (k : Dk) (q : RK) (cs : List Value) : HP := [(0, .own 63 (rdv 1 n c k q)), (1, .lst 76 5 c cs)]
theorem rnRefWrite1 {p : Prop} (h : p := by refine ⟨?_, ?_, ?_⟩; (first | apply rR_tuple | apply rR_one rfl | exact rfl); all_goals (repeat' (first | (with_reducible (first | exact relH_nil | apply rn_lst | apply rn_own | apply rn_mp | apply rn_row | apply rn_abs | exact wo_nil)) | apply wo_keep rfl | apply wo_drop rfl | exact relH_nil | exact r1_flat rfl | exact r0_flat rfl | exact rl_nil | exact wo_nil | exact bk_old rfl | exact bk_new rfl | exact bk_nil rfl | apply rl_cons | (exact relL_still hvs) | exact relL_flat (flat_map (fun _ => rfl) _) | exact relL_flat flat_nil | apply relL_to | apply rn_lst | apply rn_own | apply rn_mp | apply rn_row | apply relH_view rfl | apply relH_lview rfl | apply relH_fact rfl | exact r1_rig | exact r0_rig | exact r1_rigs | exact r0_rigs | apply wo_keep rfl | apply wo_drop rfl | apply r1_agg | apply rn_ptr | apply rn_slice | apply rn_slice0 | apply rn_iface | apply rn_map | apply rn_ifacem | apply r0_map | apply r0_ifacem | apply r0_ptr | apply r0_slice | apply r0_slice0 | apply r0_iface)); (first | done | fail)) : p := h
theorem cvRefWrite2 {p : Prop} (h : p := by have nw := True.intro; (repeat' (first | exact True.intro | (with_reducible exact rfl) | (with_reducible exact AbsLe.refl) | (guard_target =~ @Eq Nat _ _; first | exact rfl | omega) | (guard_target =~ List.map _ _ = []; exact rfl) | (first | exact covL_still rfl hvs | exact congrArg (Value.int _) (by (try dsimp only); omega) | (guard_target =~ @Eq Value _ _; exact rfl)) | (exact congrArg (Value.int _) (by omega)) | (exact covL_flat (flat_map (fun _ => rfl) _)) | (exact covL_flat flat_nil) | (refine covP_all ?_; (try clear nw); have nw := True.intro) | (refine covL_each ?_; (try clear nw); have nw := True.intro) | (refine ⟨?_, ?_⟩ <;> (try clear nw) <;> have nw := True.intro) | (guard_hyp nw : True; ((conv => whnf) <;> clear nw)))); (first | done | fail)) : p := h
set_option maxRecDepth 100000 in
theorem rclamp_c (n : Int) (hn : -9223372036854775808 ≤ n ∧ n ≤ 9223372036854775807) : CallOb Tryz.prog 28 [iv n] [] 0 (fun v hh m => ∃ z : Int, z = clampR n ∧ v = iv z ∧ hh = [] ∧ m = 0) := by
 refine call_spec tabOk mixed Tryz.call28 Tryz.func28 rfl [] (fun z : Int => z = clampR n) (fun z => iv z) (fun _ => []) (fun _ => 0) ?_ ?_
 · exact (Nat.le_of_ble_eq_true rfl)
 (repeat' ((try (conv => whnf)); first | (guard_target =~ ∃ (_ : Value), ∃ (_ : HP), ∃ (_ : HP), _; refine ⟨_, _, _, rnRefWrite1, ?_⟩; (try (dsimp only [Nat.reduceAdd, bC, bL]))) | fail | (with_reducible first | refine chk_in (Nat.ble_eq_true_of_le omT) ?_ | (refine ifB_in ?_ ?_ <;> intro hb <;> (try simp only [bN1, bN2, bN3, bN4, bN5, bN6, bN7, bN8, bN9, bN0] at hb) <;> (try (exfalso; omega))) | refine ⟨_, w64b _, ?_⟩ | refine ⟨_, w64 omT omT, ?_⟩ | refine ⟨_, wu64 omT omT, ?_⟩ | refine ⟨_, wu8 omT omT, ?_⟩ | refine ⟨_, w64 szT szT, ?_⟩ | refine ⟨_, rfl, ?_⟩ | refine ⟨rfl, ?_⟩) | intro cap | (with_reducible refine ⟨trivial, ?_⟩) | (guard_target =~ (planChk _ _ = true) ∧ _; refine ⟨by kernel_rfl, ?_⟩) | (guard_target =~ (_ ∧ _) ∧ _; refine ⟨by ((repeat (first | exact trivial | refine ⟨rfl, ?_⟩)); (first | done | fail)), ?_⟩) | refine ⟨by omega, ?_⟩ | refine ⟨szT, ?_⟩ | refine ⟨0, rfl, ?_⟩ | refine ⟨1, rfl, ?_⟩ | refine ⟨2, rfl, ?_⟩ | refine ⟨3, rfl, ?_⟩ | refine ⟨4, rfl, ?_⟩ | refine ⟨5, rfl, ?_⟩ | (refine cell_at1 (by assumption) ?_) | (refine cell_in1 omT (fun x hx => ?_)) | fail)) <;> (try (conv => whnf))
 all_goals first
  | ((refine Ends.go (n) ?_ [] (Fit.q cvRefWrite2 (by rfl) (by rfl))); unfold clampR; omega)
  | ((refine Ends.go (0) ?_ [] (Fit.q cvRefWrite2 (by rfl) (by rfl))); unfold clampR; omega)
  | ((refine Ends.go (16384) ?_ [] (Fit.q cvRefWrite2 (by rfl) (by rfl))); unfold clampR; omega)
  | trace_state
set_option maxRecDepth 100000 in
theorem roff_c (n c : Nat) (k : Dk) (q : RK) (cs : List Value) (hvs : ∀ v ∈ cs, still1 v = true) (hk : 0 ≤ k.life ∧ k.life < 4611686018427387904) :
 CallOb Tryz.prog 89 [ptr 0] (rdG n c k q cs) 2 (fun v hh m => ∃ z : Dk, z = (offD ⟨k, []⟩).k ∧ v = .tuple ([] : List Value).toArray ∧ hh = rdG n c z ⟨q.at', 0, q.mo⟩ cs ∧ m = 2) := by
 refine call_spec tabOk mixed Tryz.call89 Tryz.func89 rfl [] (fun z : Dk => z = (offD ⟨k, []⟩).k) (fun z => .tuple ([] : List Value).toArray) (fun z => rdG n c z ⟨q.at', 0, q.mo⟩ cs) (fun _ => 2) ?_ ?_
 · exact (Nat.le_of_ble_eq_true rfl)
 obtain ⟨room, down, ops, life, at', kind, more⟩ := k
 dsimp only at hk
 (repeat' ((try (conv => whnf)); first | (guard_target =~ ∃ (_ : Value), ∃ (_ : HP), ∃ (_ : HP), _; refine ⟨_, _, _, rnRefWrite1, ?_⟩; (try (dsimp only [Nat.reduceAdd, bC, bL]))) | fail | (with_reducible first | refine chk_in (Nat.ble_eq_true_of_le omT) ?_ | (refine ifB_in ?_ ?_ <;> intro hb <;> (try simp only [bN1, bN2, bN3, bN4, bN5, bN6, bN7, bN8, bN9, bN0] at hb) <;> (try (exfalso; omega))) | refine ⟨_, w64b _, ?_⟩ | refine ⟨_, w64 omT omT, ?_⟩ | refine ⟨_, wu64 omT omT, ?_⟩ | refine ⟨_, wu8 omT omT, ?_⟩ | refine ⟨_, w64 szT szT, ?_⟩ | refine ⟨_, rfl, ?_⟩ | refine ⟨rfl, ?_⟩) | intro cap | (with_reducible refine ⟨trivial, ?_⟩) | (guard_target =~ (planChk _ _ = true) ∧ _; refine ⟨by kernel_rfl, ?_⟩) | (guard_target =~ (_ ∧ _) ∧ _; refine ⟨by ((repeat (first | exact trivial | refine ⟨rfl, ?_⟩)); (first | done | fail)), ?_⟩) | refine ⟨by omega, ?_⟩ | refine ⟨szT, ?_⟩ | refine ⟨0, rfl, ?_⟩ | refine ⟨1, rfl, ?_⟩ | refine ⟨2, rfl, ?_⟩ | refine ⟨3, rfl, ?_⟩ | refine ⟨4, rfl, ?_⟩ | refine ⟨5, rfl, ?_⟩ | (refine cell_at1 (by assumption) ?_) | (refine cell_in1 omT (fun x hx => ?_)) | fail)) <;> (try (conv => whnf))
 all_goals dsimp only [rdG, rdv]
 all_goals first
  | ((refine Ends.go ((⟨room, true, ops, life, 0, kind, more⟩ : Dk)) ?_ [] (Fit.q cvRefWrite2 (by rfl) (by rfl))); unfold offD; dsimp only at hb ⊢; subst hb; rfl)
  | ((refine Ends.go ((⟨room, true, ops, life + 1, 0, kind, more⟩ : Dk)) ?_ [] (Fit.q cvRefWrite2 (by rfl) (by rfl))); unfold offD; dsimp only at hb ⊢; subst hb; rfl)
  | trace_state
set_option maxRecDepth 100000 in
set_option maxHeartbeats 2000000 in
theorem rbegin_c (n c : Nat) (k : Dk) (q : RK) (s : ByteArray) (bad : Bool) (cs : List Value) (hvs : ∀ v ∈ cs, still1 v = true) (hk : k.Fit) (hq : q.Ok k) :
 CallOb Tryz.prog 68 [ptr 0, .string s, .bool bad] (rdG n c k q cs) 2 (fun v hh m => ∃ z : Int × Dk × RK, ((z.1, z.2.1) = begS k s (!bad) ∧ z.2.2.Ok z.2.1) ∧ v = iv z.1 ∧ hh = rdG n c z.2.1 z.2.2 cs ∧ m = 2) := by
 refine call_spec tabOk mixed Tryz.call68 Tryz.func68 rfl [] (fun z : Int × Dk × RK => (z.1, z.2.1) = begS k s (!bad) ∧ z.2.2.Ok z.2.1) (fun z => iv z.1) (fun z => rdG n c z.2.1 z.2.2 cs) (fun _ => 2) ?_ ?_
 · exact (Nat.le_of_ble_eq_true rfl)
 obtain ⟨room, down, ops, life, at', kind, more⟩ := k
 obtain ⟨ra, rk, rm⟩ := q
 obtain ⟨q1, q2, q3, q4, q5⟩ := hq
 unfold Dk.Fit at hk
 dsimp only at hk q1 q2 q3 q4 q5
 dsimp only [rdG, rdv]
 (repeat' ((try (conv => whnf)); first | (guard_target =~ ∃ (_ : Value), ∃ (_ : HP), ∃ (_ : HP), _; refine ⟨_, _, _, rnRefWrite1, ?_⟩; (try (dsimp only [Nat.reduceAdd, bC, bL]))) | ((guard_target =~ CallOb _ 89 _ _ _ _; refine call_q (roff_c n c ⟨room, down, ops + 1, life, at', kind, more⟩ ⟨ra - 1, rk, rm⟩ cs hvs (by dsimp only; omega)) [(0, some 0), (1, some 1)] cvRefWrite2 rfT rfT rfT (fun v h1 n1 hp => ?_); obtain ⟨k2, hk2, rfl, rfl, rfl⟩ := hp); unfold offD at hk2; dsimp only at hk2; (try (dsimp only [Nat.reduceAdd, bC, bL]))) | (with_reducible first | refine chk_in (Nat.ble_eq_true_of_le omT) ?_ | (refine ifB_in ?_ ?_ <;> intro hb <;> (try simp only [bN1, bN2, bN3, bN4, bN5, bN6, bN7, bN8, bN9, bN0] at hb) <;> (try (exfalso; omega))) | refine ⟨_, w64b _, ?_⟩ | refine ⟨_, w64 omT omT, ?_⟩ | refine ⟨_, wu64 omT omT, ?_⟩ | refine ⟨_, wu8 omT omT, ?_⟩ | refine ⟨_, w64 szT szT, ?_⟩ | refine ⟨_, rfl, ?_⟩ | refine ⟨rfl, ?_⟩) | intro cap | (with_reducible refine ⟨trivial, ?_⟩) | (guard_target =~ (planChk _ _ = true) ∧ _; refine ⟨by kernel_rfl, ?_⟩) | (guard_target =~ (_ ∧ _) ∧ _; refine ⟨by ((repeat (first | exact trivial | refine ⟨rfl, ?_⟩)); (first | done | fail)), ?_⟩) | refine ⟨by omega, ?_⟩ | refine ⟨szT, ?_⟩ | refine ⟨0, rfl, ?_⟩ | refine ⟨1, rfl, ?_⟩ | refine ⟨2, rfl, ?_⟩ | refine ⟨3, rfl, ?_⟩ | refine ⟨4, rfl, ?_⟩ | refine ⟨5, rfl, ?_⟩ | (refine cell_at1 (by assumption) ?_) | (refine cell_in1 omT (fun x hx => ?_)) | fail)) <;> (try (conv => whnf))
 all_goals first
  | (guard_target =~ Ends _ _ _ _ _ (packV [Value.int _ 1]) _; (refine Ends.go (((1, ⟨room, down, ops, life, at', kind, more⟩, ⟨ra, rk, rm⟩) : Int × Dk × RK)) ?_ [] (Fit.q cvRefWrite2 (by rfl) (by rfl))); exact ⟨(by dsimp only; exact Eq.symm (bs_bad (by first | exact .inl (good_no (by omega)) | exact .inr (by rw [‹bad = true›]; rfl)))), ⟨q1, q2, q3, q4, q5⟩⟩)
  | (guard_target =~ Ends _ _ _ _ _ (packV [Value.int _ 10]) _; (refine Ends.go (((10, ⟨room, down, ops, life, at', kind, more⟩, ⟨ra, rk, rm⟩) : Int × Dk × RK)) ?_ [] (Fit.q cvRefWrite2 (by rfl) (by rfl))); exact ⟨(by dsimp only; exact Eq.symm (bs_down (good_yes (by omega) (by omega)) (by rw [‹bad = false›]; rfl) ‹down = true›)), ⟨q1, q2, q3, q4, q5⟩⟩)
  | (guard_target =~ Ends _ _ _ _ _ (packV [Value.int _ 0]) _; (refine Ends.go (((0, ⟨room, down, ops + 1, life, at', kind, more⟩, ⟨ra, rk, rm⟩) : Int × Dk × RK)) ?_ [] (Fit.q cvRefWrite2 (by rfl) (by rfl))); have h0 : at' = 0 := Classical.byContradiction fun h => (q2 h).2.2.1 (by omega); exact ⟨(by dsimp only; exact Eq.symm (bs_ok (good_yes (by omega) (by omega)) (by rw [‹bad = false›]; rfl) ‹down = false› h0)), ⟨q1, q2, q3, q4, q5⟩⟩)
  | (guard_target =~ Ends _ _ _ _ _ (packV [Value.int _ 0]) _; (refine Ends.go (((0, ⟨room, down, ops + 1, life, at' - 1, kind, more⟩, ⟨ra - 1, rk, rm⟩) : Int × Dk × RK)) ?_ [] (Fit.q cvRefWrite2 (by rfl) (by rfl))); have h0 : at' ≠ 0 := fun h => absurd (q1 h) (by omega); have h1 := q2 h0; exact ⟨(by dsimp only; exact Eq.symm (bs_wait (good_yes (by omega) (by omega)) (by rw [‹bad = false›]; rfl) ‹down = false› (by dsimp only; omega))), ⟨fun h => absurd h (by dsimp only; omega), fun _ => ⟨by dsimp only; omega, h1.2⟩, by dsimp only; omega, q4, q5⟩⟩)
  | (guard_target =~ Ends _ _ _ _ _ (packV [Value.int _ 10]) _; (refine Ends.go (((10, k2, ⟨ra - 1, 0, rm⟩) : Int × Dk × RK)) ?_ [] (Fit.q cvRefWrite2 (by rfl) (by rfl))); have h0 : at' ≠ 0 := fun h => absurd (q1 h) (by omega); have h1 := q2 h0; rw [if_neg (by rw [‹down = false›]; decide)] at hk2; exact ⟨(by subst hk2; exact Eq.symm (bs_off (good_yes (by omega) (by omega)) (by rw [‹bad = false›]; rfl) ‹down = false› h0 (by dsimp only; omega) (by dsimp only; omega))), ⟨fun _ => rfl, fun h => absurd (by subst hk2; rfl) h, (by dsimp only; omega), (by dsimp only; omega), q5⟩⟩)
  | (guard_target =~ Ends _ _ _ _ _ (packV [Value.int _ 11]) _; (refine Ends.go (((11, ⟨room, down, ops + 1, life, at', kind, more - 1⟩, ⟨1, rk, rm - 1⟩) : Int × Dk × RK)) ?_ [] (Fit.q cvRefWrite2 (by rfl) (by rfl))); have h0 : at' ≠ 0 := fun h => absurd (q1 h) (by omega); have h1 := q2 h0; exact ⟨(by dsimp only; exact Eq.symm (bs_more (good_yes (by omega) (by omega)) (by rw [‹bad = false›]; rfl) ‹down = false› h0 (by dsimp only; omega) (by dsimp only; omega) (by dsimp only; omega))), ⟨fun h => absurd h h0, fun _ => ⟨(by dsimp only; omega), h1.2.1, h1.2.2.1, (by dsimp only; omega)⟩, (by dsimp only; omega), q4, (by dsimp only; omega)⟩⟩)
  | (guard_target =~ Ends _ _ _ _ _ (packV [Value.int _ 11]) _; (refine Ends.go (((11, ⟨room, down, ops + 1, life, 0, kind, more⟩, ⟨1, 0, rm⟩) : Int × Dk × RK)) ?_ [] (Fit.q cvRefWrite2 (by rfl) (by rfl))); have h0 : at' ≠ 0 := fun h => absurd (q1 h) (by omega); have h1 := q2 h0; exact ⟨(by dsimp only; exact Eq.symm (bs_last (good_yes (by omega) (by omega)) (by rw [‹bad = false›]; rfl) ‹down = false› h0 (by dsimp only; omega) (by dsimp only; omega) (by dsimp only; omega))), ⟨fun _ => rfl, fun h => absurd rfl h, (by dsimp only; omega), (by dsimp only; omega), q5⟩⟩)
  | trace_state
def PlaceR (E : List RF) (s : ByteArray) (z : Int) : Prop := (z = -1 ∧ ∀ e ∈ E, e.nm ≠ s) ∨ ∃ (q : Nat) (e : RF), E[q]? = some e ∧ e.nm = s ∧ z = (q : Int)
theorem cell_rf {E : List RF} {q j : Nat} {e : RF} {u : Value} (h : E[q]? = some e) (hj : j < 5) (hc : (fileR e)[j]? = some u) : (E.flatMap fileR)[0 + q * 5 + j]? = some u := by
 have := flat_sub (f := fileR) (n := 5) (fun _ => rfl) h (o := 0 + q * 5) (by omega)
 have h2 := (subL_ok this).1
 rw [← h2, List.getElem?_take, if_pos hj, List.getElem?_drop] at hc
 exact hc
theorem str_same {a b : ByteArray} (h : strEq a b = true) : a = b := bytesOf_inj.1 (strEq_true.1 h)
theorem str_other {a b : ByteArray} (h : strEq a b = false) : a ≠ b := fun e => strEq_false.1 h (by rw [e])
set_option maxRecDepth 100000 in
theorem rplace_c (E : List RF) (c : Nat) (dk : Dk) (q : RK) (s : ByteArray) (hl : E.length ≤ 8) :
 CallOb Tryz.prog 32 [ptr 0, .string s] (rdG E.length c dk q (E.flatMap fileR)) 2 (fun v hh m => ∃ z : Int, PlaceR E s z ∧ v = iv z ∧ hh = rdG E.length c dk q (E.flatMap fileR) ∧ m = 2) := by
 have hvs := files_still E
 refine call_spec tabOk mixed Tryz.call32 Tryz.func32 rfl [] (PlaceR E s) (fun z => iv z) (fun _ => rdG E.length c dk q (E.flatMap fileR)) (fun _ => 2) ?_ ?_
 · exact (Nat.le_of_ble_eq_true rfl)
 dsimp only [rdG, rdv]
 (repeat' ((try (conv => whnf)); first | (guard_target =~ ∃ (_ : Value), ∃ (_ : HP), ∃ (_ : HP), _; refine ⟨_, _, _, rnRefWrite1, ?_⟩; (try (dsimp only [Nat.reduceAdd, bC, bL]))) | (guard_target =~ LoopOb _ _ _ _ _ _ _ _; refine loop_rule tabOk mixed [] 2 (fun k => [(0, ptr 0), (1, .string s), (5, iv (k : Nat))]) (fun k => rdG E.length c dk q (E.flatMap fileR)) (fun k => E.length - k) (fun k => k ≤ E.length ∧ ∀ j e, j < k → E[j]? = some e → e.nm ≠ s) (0) (⟨Nat.zero_le _, fun j e hj => absurd hj (Nat.not_lt_zero _)⟩) ⟨[(0, some 0), (1, some 1)], Sub.q cvRefWrite2 (by rfl) (by rfl)⟩ (fun k hk => ?_)) | (refine ⟨k, rfl, by omega, ?_⟩) | (guard_hyp k : Nat; obtain ⟨x, hx⟩ : ∃ x, E[k]? = some x := ⟨_, List.getElem?_eq_getElem omT⟩; first | refine onS_in (v := .string x.nm) (by show (E.flatMap fileR)[0 + k * 5 + 0]? = _; exact cell_rf hx (by decide) rfl) ?_ | refine onS_in (v := rs x.a x.X.now.length x.ka) (by show (E.flatMap fileR)[0 + k * 5 + 1]? = _; exact cell_rf hx (by decide) rfl) ?_) | (with_reducible first | refine chk_in (Nat.ble_eq_true_of_le omT) ?_ | (refine ifB_in ?_ ?_ <;> intro hb <;> (try simp only [bN1, bN2, bN3, bN4, bN5, bN6, bN7, bN8, bN9, bN0] at hb) <;> (try (exfalso; omega))) | refine ⟨_, w64b _, ?_⟩ | refine ⟨_, w64 omT omT, ?_⟩ | refine ⟨_, wu64 omT omT, ?_⟩ | refine ⟨_, wu8 omT omT, ?_⟩ | refine ⟨_, w64 szT szT, ?_⟩ | refine ⟨_, rfl, ?_⟩ | refine ⟨rfl, ?_⟩) | intro cap | (with_reducible refine ⟨trivial, ?_⟩) | (guard_target =~ (planChk _ _ = true) ∧ _; refine ⟨by kernel_rfl, ?_⟩) | (guard_target =~ (_ ∧ _) ∧ _; refine ⟨by ((repeat (first | exact trivial | refine ⟨rfl, ?_⟩)); (first | done | fail)), ?_⟩) | refine ⟨by omega, ?_⟩ | refine ⟨szT, ?_⟩ | refine ⟨0, rfl, ?_⟩ | refine ⟨1, rfl, ?_⟩ | refine ⟨2, rfl, ?_⟩ | refine ⟨3, rfl, ?_⟩ | refine ⟨4, rfl, ?_⟩ | refine ⟨5, rfl, ?_⟩ | (refine cell_at1 (by assumption) ?_) | (refine cell_in1 omT (fun x hx => ?_)) | fail)) <;> (try (conv => whnf))
 all_goals first
  | ((refine Ends.go (((k : Nat) : Int)) ?_ [(1, some 1)] (Fit.q cvRefWrite2 (by rfl) (by rfl))); exact .inr ⟨k, x, hx, str_same ‹strEq x.nm s = true›, rfl⟩)
  | ((refine Again.go (k + 1) ?_ (by (try dsimp only); omega) [(1, some 1)] (Sub.q cvRefWrite2 (by rfl) (by rfl))); exact ⟨by omega, fun j e hj he => by
   rcases Nat.lt_or_ge j k with h | h
   · exact hk.2 j e h he
   · obtain rfl : j = k := by omega
     rw [hx] at he; cases he
     exact str_other ‹strEq x.nm s = false›⟩)
  | ((refine Ends.go (-1) ?_ [(1, some 1)] (Fit.q cvRefWrite2 (by rfl) (by rfl))); exact .inl ⟨rfl, fun e he => by
   obtain ⟨j, hj⟩ := List.mem_iff_getElem?.1 he
   have := (List.getElem?_eq_some_iff.1 hj).1
   exact hk.2 j e (by omega) hj⟩)
  | trace_state
theorem place_none {E : List RF} {s : ByteArray} (h : ∀ e ∈ E, e.nm ≠ s) : findF (filesR E) s = none := find_none fun p hp => by
 obtain ⟨e, he, rfl⟩ := List.mem_map.1 hp
 exact h e he
theorem place_some {E : List RF} {s : ByteArray} (hs : Sorted (filesR E)) {q : Nat} {e : RF} (h : E[q]? = some e) (hn : e.nm = s) : findF (filesR E) s = some e.X :=
 mem_find hs (List.mem_map.2 ⟨e, List.mem_of_getElem? h, by rw [hn]⟩)
set_option maxRecDepth 100000 in
theorem rsize_c (E : List RF) (c : Nat) (dk : Dk) (q : RK) (s : ByteArray) (hl : E.length ≤ 8) (hs : Sorted (filesR E)) :
 CallOb Tryz.prog 19 [ptr 0, .string s] (rdG E.length c dk q (E.flatMap fileR)) 2 (fun v hh m => ∃ z : Int, z = sizeD ⟨dk, filesR E⟩ s ∧ v = iv z ∧ hh = rdG E.length c dk q (E.flatMap fileR) ∧ m = 2) := by
 have hvs := files_still E
 refine call_spec tabOk mixed Tryz.call19 Tryz.func19 rfl [] (fun z : Int => z = sizeD ⟨dk, filesR E⟩ s) (fun z => iv z) (fun _ => rdG E.length c dk q (E.flatMap fileR)) (fun _ => 2) ?_ ?_
 · exact (Nat.le_of_ble_eq_true rfl)
 dsimp only [rdG, rdv]
 (repeat' ((try (conv => whnf)); first | (guard_target =~ ∃ (_ : Value), ∃ (_ : HP), ∃ (_ : HP), _; refine ⟨_, _, _, rnRefWrite1, ?_⟩; (try (dsimp only [Nat.reduceAdd, bC, bL]))) | (guard_target =~ CallOb _ 32 _ _ _ _; refine call_q (rplace_c E c dk q s hl) [(0, some 0), (1, some 1)] cvRefWrite2 rfT rfT rfT (fun v h1 n1 hp => ?_); obtain ⟨z, hz, rfl, rfl, rfl⟩ := hp; rcases hz with ⟨rfl, hz⟩ | ⟨k, x, hx, hnx, rfl⟩; all_goals (have hmk : 1 = 1 := rfl); all_goals (try (dsimp only [Nat.reduceAdd, bC, bL]))) | (refine ⟨k, rfl, (List.getElem?_eq_some_iff.1 hx).1, ?_⟩) | (refine onS_in (v := rs x.a x.X.now.length x.ka) (by show (E.flatMap fileR)[0 + k * 5 + 1]? = _; exact cell_rf hx (by decide) rfl) ?_) | (with_reducible first | refine chk_in (Nat.ble_eq_true_of_le omT) ?_ | (refine ifB_in ?_ ?_ <;> intro hb <;> (try simp only [bN1, bN2, bN3, bN4, bN5, bN6, bN7, bN8, bN9, bN0] at hb) <;> (try (exfalso; omega))) | refine ⟨_, w64b _, ?_⟩ | refine ⟨_, w64 omT omT, ?_⟩ | refine ⟨_, wu64 omT omT, ?_⟩ | refine ⟨_, wu8 omT omT, ?_⟩ | refine ⟨_, w64 szT szT, ?_⟩ | refine ⟨_, rfl, ?_⟩ | refine ⟨rfl, ?_⟩) | intro cap | (with_reducible refine ⟨trivial, ?_⟩) | (guard_target =~ (planChk _ _ = true) ∧ _; refine ⟨by kernel_rfl, ?_⟩) | (guard_target =~ (_ ∧ _) ∧ _; refine ⟨by ((repeat (first | exact trivial | refine ⟨rfl, ?_⟩)); (first | done | fail)), ?_⟩) | refine ⟨by omega, ?_⟩ | refine ⟨szT, ?_⟩ | refine ⟨0, rfl, ?_⟩ | refine ⟨1, rfl, ?_⟩ | refine ⟨2, rfl, ?_⟩ | refine ⟨3, rfl, ?_⟩ | refine ⟨4, rfl, ?_⟩ | refine ⟨5, rfl, ?_⟩ | (refine cell_at1 (by assumption) ?_) | (refine cell_in1 omT (fun x hx => ?_)) | fail)) <;> (try (conv => whnf))
 all_goals first
  | (guard_hyp hx : E[k]? = some x; (refine Ends.go (((x.X.now.length : Nat) : Int)) ?_ [(1, some 1)] (Fit.q cvRefWrite2 (by rfl) (by rfl))); unfold sizeD; rw [place_some hs hx hnx])
  | ((refine Ends.go (-1) ?_ [(1, some 1)] (Fit.q cvRefWrite2 (by rfl) (by rfl))); unfold sizeD; rw [place_none hz])
  | trace_state
abbrev tots (E : List RF) (k : Nat) : Nat := total (filesR (E.take k))
theorem tots_next {E : List RF} {k : Nat} {x : RF} (h : E[k]? = some x) : tots E (k + 1) = tots E k + x.X.now.length := by
 unfold tots total
 rw [List.take_add_one, h]
 simp
theorem tots_le (E : List RF) (hx : ∀ e ∈ E, e.X.now.length ≤ 16384) : ∀ k, k ≤ E.length → tots E k ≤ k * 16384
 | 0, _ => by simp [tots, total]
 | k + 1, h => by
  obtain ⟨x, hk⟩ : ∃ x, E[k]? = some x := ⟨_, List.getElem?_eq_getElem (by omega)⟩
  have := tots_le E hx k (by omega)
  have := hx x (List.mem_of_getElem? hk)
  rw [tots_next hk]
  omega
set_option maxRecDepth 100000 in
theorem rtotal_c (E : List RF) (c : Nat) (dk : Dk) (q : RK) (hl : E.length ≤ 8) (hX : ∀ e ∈ E, e.X.now.length ≤ 16384) :
 CallOb Tryz.prog 77 [ptr 0] (rdG E.length c dk q (E.flatMap fileR)) 2 (fun v hh m => ∃ z : Int, z = (total (filesR E) : Nat) ∧ v = iv z ∧ hh = rdG E.length c dk q (E.flatMap fileR) ∧ m = 2) := by
 have hvs := files_still E
 have htl := tots_le E hX
 have ht0 : tots E 0 = 0 := rfl
 have ht1 := htl E.length (Nat.le_refl _)
 refine call_spec tabOk mixed Tryz.call77 Tryz.func77 rfl [] (fun z : Int => z = (total (filesR E) : Nat)) (fun z => iv z) (fun _ => rdG E.length c dk q (E.flatMap fileR)) (fun _ => 2) ?_ ?_
 · exact (Nat.le_of_ble_eq_true rfl)
 dsimp only [rdG, rdv]
 (repeat' ((try (conv => whnf)); first | (guard_target =~ ∃ (_ : Value), ∃ (_ : HP), ∃ (_ : HP), _; refine ⟨_, _, _, rnRefWrite1, ?_⟩; (try (dsimp only [Nat.reduceAdd, bC, bL]))) | (guard_target =~ LoopOb _ _ _ _ _ _ _ _; refine loop_rule tabOk mixed [] 2 (fun k => [(0, ptr 0), (3, iv ((tots E k : Nat) : Int)), (4, iv ((k : Nat) : Int))]) (fun k => rdG E.length c dk q (E.flatMap fileR)) (fun k => E.length - k) (fun k => k ≤ E.length) (0) (Nat.zero_le _) ⟨[(0, some 0), (1, some 1)], Sub.q cvRefWrite2 (by rfl) (by rfl)⟩ (fun k hk => ?_)) | (refine ⟨k, rfl, by omega, ?_⟩) | (obtain ⟨x, hx⟩ : ∃ x, E[k]? = some x := ⟨_, List.getElem?_eq_getElem omT⟩; have hXx := hX x (List.mem_of_getElem? hx); have htk := htl k omT; refine onS_in (v := rs x.a x.X.now.length x.ka) (by show (E.flatMap fileR)[0 + k * 5 + 1]? = _; exact cell_rf hx (by decide) rfl) ?_) | (with_reducible first | refine chk_in (Nat.ble_eq_true_of_le omT) ?_ | (refine ifB_in ?_ ?_ <;> intro hb <;> (try simp only [bN1, bN2, bN3, bN4, bN5, bN6, bN7, bN8, bN9, bN0] at hb) <;> (try (exfalso; omega))) | refine ⟨_, w64b _, ?_⟩ | refine ⟨_, w64 omT omT, ?_⟩ | refine ⟨_, wu64 omT omT, ?_⟩ | refine ⟨_, wu8 omT omT, ?_⟩ | refine ⟨_, w64 szT szT, ?_⟩ | refine ⟨_, rfl, ?_⟩ | refine ⟨rfl, ?_⟩) | intro cap | (with_reducible refine ⟨trivial, ?_⟩) | (guard_target =~ (planChk _ _ = true) ∧ _; refine ⟨by kernel_rfl, ?_⟩) | (guard_target =~ (_ ∧ _) ∧ _; refine ⟨by ((repeat (first | exact trivial | refine ⟨rfl, ?_⟩)); (first | done | fail)), ?_⟩) | refine ⟨by omega, ?_⟩ | refine ⟨szT, ?_⟩ | refine ⟨0, rfl, ?_⟩ | refine ⟨1, rfl, ?_⟩ | refine ⟨2, rfl, ?_⟩ | refine ⟨3, rfl, ?_⟩ | refine ⟨4, rfl, ?_⟩ | refine ⟨5, rfl, ?_⟩ | (refine cell_at1 (by assumption) ?_) | (refine cell_in1 omT (fun x hx => ?_)) | fail)) <;> (try (conv => whnf))
 all_goals first
  | (have ht := tots_next hx; (refine Again.go (k + 1) ?_ (by (try dsimp only); omega) [(1, some 1)] (Sub.q cvRefWrite2 (by rfl) (by rfl))); omega)
  | ((refine Ends.go (((tots E k : Nat) : Int)) ?_ [(1, some 1)] (Fit.q cvRefWrite2 (by rfl) (by rfl))); obtain rfl : k = E.length := (by omega); unfold tots; rw [List.take_length])
  | trace_state
theorem arm_no {k : Dk} {a b d : Int} (h : a < 1 ∨ ¬ (b = 1 ∨ b = 2)) : (armD ⟨k, []⟩ a b d).k.at' = 0 := by
 show (if b = 1 ∨ b = 2 then max a 0 else 0) = (0 : Int)
 by_cases hb : b = 1 ∨ b = 2
 · rw [if_pos hb]; omega
 · rw [if_neg hb]
set_option maxRecDepth 100000 in
theorem rnew0_c (n : Int) (hn : -9223372036854775808 ≤ n ∧ n ≤ 9223372036854775807) :
 CallOb Tryz.prog 8 [iv n] [] 0 (fun v hh m => ∃ z : Int, z = clampR n ∧ v = ptr 10 ∧ hh = [(10, .own 63 (rdv 11 0 0 ⟨z, false, 0, 0, 0, 0, 0⟩ ⟨0, 0, 0⟩)), (11, .lst 76 5 0 [])] ∧ m = 20) := by
 refine call_spec tabOk mixed Tryz.call8 Tryz.func8 rfl [] (fun z : Int => z = clampR n) (fun z => ptr 10) (fun z => [(10, .own 63 (rdv 11 0 0 ⟨z, false, 0, 0, 0, 0, 0⟩ ⟨0, 0, 0⟩)), (11, .lst 76 5 0 [])]) (fun _ => 20) ?_ ?_
 · exact (Nat.le_of_ble_eq_true rfl)
 (repeat' ((try (conv => whnf)); first | (guard_target =~ ∃ (_ : Value), ∃ (_ : HP), ∃ (_ : HP), _; refine ⟨_, _, _, rnRefWrite1, ?_⟩; (try (dsimp only [Nat.reduceAdd, bC, bL]))) | ((guard_target =~ CallOb _ 28 _ _ _ _; refine call_q (rclamp_c n hn) [] cvRefWrite2 rfT rfT rfT (fun v h1 n1 hp => ?_); obtain ⟨z, hz, rfl, rfl, rfl⟩ := hp); (try (dsimp only [Nat.reduceAdd, bC, bL]))) | (with_reducible first | refine chk_in (Nat.ble_eq_true_of_le omT) ?_ | (refine ifB_in ?_ ?_ <;> intro hb <;> (try simp only [bN1, bN2, bN3, bN4, bN5, bN6, bN7, bN8, bN9, bN0] at hb) <;> (try (exfalso; omega))) | refine ⟨_, w64b _, ?_⟩ | refine ⟨_, w64 omT omT, ?_⟩ | refine ⟨_, wu64 omT omT, ?_⟩ | refine ⟨_, wu8 omT omT, ?_⟩ | refine ⟨_, w64 szT szT, ?_⟩ | refine ⟨_, rfl, ?_⟩ | refine ⟨rfl, ?_⟩) | intro cap | (with_reducible refine ⟨trivial, ?_⟩) | (guard_target =~ (planChk _ _ = true) ∧ _; refine ⟨by kernel_rfl, ?_⟩) | (guard_target =~ (_ ∧ _) ∧ _; refine ⟨by ((repeat (first | exact trivial | refine ⟨rfl, ?_⟩)); (first | done | fail)), ?_⟩) | refine ⟨by omega, ?_⟩ | refine ⟨szT, ?_⟩ | refine ⟨0, rfl, ?_⟩ | refine ⟨1, rfl, ?_⟩ | refine ⟨2, rfl, ?_⟩ | refine ⟨3, rfl, ?_⟩ | refine ⟨4, rfl, ?_⟩ | refine ⟨5, rfl, ?_⟩ | (refine cell_at1 (by assumption) ?_) | (refine cell_in1 omT (fun x hx => ?_)) | fail)) <;> (try (conv => whnf))
 all_goals first
  | ((refine Ends.go (z) ?_ [(10, some 0), (11, none)] (Fit.q cvRefWrite2 (by rfl) (by rfl))); exact hz)
  | trace_state
end Go.Proofs.YtelolcagncgfpaaGreat
namespace Go.Proofs.YtelolcagncgfpaaGreat
open Go.RowKit
set_option linter.unusedSimpArgs false
set_option linter.unusedVariables false
abbrev newR (s : ByteArray) : RF := ⟨s, fl0, none, none, none, 0, 0, 0⟩
def insP (E : List RF) (s : ByteArray) (p : Nat) : List RF := E.take p ++ newR s :: E.drop p
def outL (E : List RF) (s : ByteArray) (i : Nat) : Option Nat → List RF
 | none => E.take i
 | some p => E.take p ++ newR s :: (E.drop p).take (i - p)
abbrev atV : Option Nat → Int
 | none => -1
 | some p => (p : Nat)
theorem out_0 (E : List RF) (s : ByteArray) : outL E s 0 none = [] := rfl
theorem out_more {E : List RF} {s : ByteArray} {i : Nat} {a : Option Nat} {x : RF} (hx : E[i]? = some x) (ha : ∀ p, a = some p → p < i) : outL E s (i + 1) a = outL E s i a ++ [x] := by
 cases a with
 | none => unfold outL; rw [List.take_add_one, hx]; rfl
 | some p =>
  have := ha p rfl
  unfold outL
  dsimp only
  rw [show i + 1 - p = (i - p) + 1 by omega, List.take_add_one, List.getElem?_drop, show p + (i - p) = i by omega, hx, List.append_assoc]
  rfl
theorem out_new {E : List RF} {s : ByteArray} {i : Nat} {x : RF} (hx : E[i]? = some x) : outL E s (i + 1) (some i) = outL E s i none ++ [newR s, x] := by
 unfold outL
 dsimp only
 rw [show i + 1 - i = 0 + 1 by omega, List.take_add_one, List.getElem?_drop, Nat.add_zero, hx]
 rfl
theorem out_end {E : List RF} {s : ByteArray} {p : Nat} : outL E s E.length (some p) = insP E s p := by
 unfold outL insP
 dsimp only
 rw [List.take_of_length_le (l := E.drop p) (by rw [List.length_drop]; omega)]
theorem ins_end (E : List RF) (s : ByteArray) : insP E s E.length = outL E s E.length none ++ [newR s] := by
 unfold insP outL
 rw [List.take_length, List.drop_length]
theorem out_len {E : List RF} {s : ByteArray} {i : Nat} {a : Option Nat} (hi : i ≤ E.length) (ha : ∀ p, a = some p → p < i) : (outL E s i a).length = if a = none then i else i + 1 := by
 cases a with
 | none => unfold outL; rw [if_pos rfl, List.length_take]; omega
 | some p =>
  have := ha p rfl
  unfold outL
  rw [if_neg (by simp), List.length_append, List.length_cons, List.length_take, List.length_take, List.length_drop]
  omega
theorem ins_len {E : List RF} {s : ByteArray} {p : Nat} (hp : p ≤ E.length) : (insP E s p).length = E.length + 1 := by
 unfold insP
 rw [List.length_append, List.length_cons, List.length_take, List.length_drop]
 omega
theorem ins_at {E : List RF} {s : ByteArray} {p : Nat} (hp : p ≤ E.length) : (insP E s p)[p]? = some (newR s) := by
 unfold insP
 rw [List.getElem?_append_right (by rw [List.length_take]; omega), List.length_take, Nat.min_eq_left hp, Nat.sub_self]
 rfl
theorem cov_rf {np : Nat} {L : IdMap} (e : RF) : LR (cov1 np L) (fileR e) (fileR e) := ⟨rfl, ⟨rfl, rfl, rfl, rfl, rfl⟩, ⟨rfl, rfl, rfl, rfl, rfl⟩, ⟨rfl, rfl, rfl, rfl, rfl⟩, rfl, trivial⟩
theorem cov_rfs {np : Nat} {L : IdMap} : ∀ E : List RF, LR (cov1 np L) (E.flatMap fileR) (E.flatMap fileR)
 | [] => trivial
 | e :: E => by rw [List.flatMap_cons]; exact (cov_rf e).append (cov_rfs E)
theorem covL_rf {np : Nat} {L : IdMap} {cs0 cs a b0 b : List Value} {E : List RF} (e0 : cs0 = a ++ b0) (e : cs = a ++ b) (ha : a = E.flatMap fileR) (hb : LR (cov1 np L) b0 b) : covL np L cs0 cs := by
 subst e0 e ha
 exact .inr ((cov_rfs E).append hb)
section
variable {np : Nat} {L : IdMap} {E : List RF} {s : ByteArray} {i : Nat} {x : RF} {l1 l2 : List Value}
theorem cov_ins2 (hx : E[i]? = some x) (h1 : LR (cov1 np L) (fileR (newR s)) l1) (h2 : LR (cov1 np L) (fileR x) l2) : covL np L ((outL E s (i + 1) (some i)).flatMap fileR) (((outL E s i none).flatMap fileR ++ l1) ++ l2) := by
 rw [out_new hx, List.append_assoc]
 exact covL_rf (E := outL E s i none) (b0 := fileR (newR s) ++ fileR x) (by simp only [List.flatMap_append, List.flatMap_cons, List.flatMap_nil, List.append_nil]) rfl rfl (h1.append h2)
theorem cov_more {a : Option Nat} (hx : E[i]? = some x) (hlt : ∀ p, a = some p → p < i) (h2 : LR (cov1 np L) (fileR x) l2) : covL np L ((outL E s (i + 1) a).flatMap fileR) ((outL E s i a).flatMap fileR ++ l2) := by
 rw [out_more hx hlt]
 exact covL_rf (E := outL E s i a) (b0 := fileR x) (by simp only [List.flatMap_append, List.flatMap_cons, List.flatMap_nil, List.append_nil]) rfl rfl h2
theorem cov_end (h1 : LR (cov1 np L) (fileR (newR s)) l1) : covL np L ((insP E s E.length).flatMap fileR) ((outL E s E.length none).flatMap fileR ++ l1) := by
 rw [ins_end]
 exact covL_rf (E := outL E s E.length none) (b0 := fileR (newR s)) (by simp only [List.flatMap_append, List.flatMap_cons, List.flatMap_nil, List.append_nil]) rfl rfl h1
theorem cov_out {p : Nat} : covL np L ((insP E s p).flatMap fileR) ((outL E s E.length (some p)).flatMap fileR) := by
 rw [out_end]
 exact covL_still rfl (files_still _)
end
theorem len_rf1 {E : List RF} {l : List Value} (h : l.length = 5) : (E.flatMap fileR ++ l).length = (E.length + 1) * 5 := by
 rw [List.length_append, len_cells fileR 5 (fun _ => rfl), h]; omega
attribute [local irreducible] bytesOf strOf strEq strLt sfrom begS goodName
structure MI where
 i : Nat
 a : Option Nat
 c : Nat
 v : Int
structure MIR (E : List RF) (s : ByteArray) (k : MI) : Prop where
 le : k.i ≤ E.length
 lt : ∀ p, k.a = some p → p < k.i
 at1 : ∀ p x, k.a = some p → E[p]? = some x → strLt s x.nm = true
 no : ∀ j x, (j < k.i ∧ ∀ p, k.a = some p → j < p) → E[j]? = some x → strLt s x.nm = false
 ca : (outL E s k.i k.a).length ≤ k.c
 v : k.v = atV k.a
def MadeR (E : List RF) (s : ByteArray) (z : Nat × List RF) : Prop :=
 (z.2 = E ∧ ∃ x, E[z.1]? = some x ∧ x.nm = s) ∨ ((∀ e ∈ E, e.nm ≠ s) ∧ z.1 ≤ E.length ∧ z.2 = insP E s z.1 ∧ (∀ x, E[z.1]? = some x → strLt s x.nm = true) ∧ ∀ j x, j < z.1 → E[j]? = some x → strLt s x.nm = false)
theorem cvRefWrite3 {p : Prop} (h : p := by have nw := True.intro; (repeat' (first | exact True.intro | (with_reducible exact rfl) | (with_reducible exact AbsLe.refl) | (guard_target =~ @Eq Nat _ _; first | exact rfl | omega) | (guard_target =~ List.map _ _ = []; exact rfl) | (first | (guard_target =~ @Eq Nat _ _; dsimp only; omega) | (guard_target =~ covL _ _ _ _; guard_hyp mkN : 1 = 1; apply cov_ins2 hx <;> (try clear nw) <;> have nw := True.intro) | (guard_target =~ covL _ _ _ _; apply cov_more hx hlt <;> (try clear nw) <;> have nw := True.intro) | (guard_target =~ covL _ _ _ _; apply cov_end <;> (try clear nw) <;> have nw := True.intro) | exact cov_out | exact covL_still rfl (files_still _) | exact congrArg (Value.int _) (by (try dsimp only); omega) | (guard_target =~ @Eq Value _ _; exact rfl)) | (exact congrArg (Value.int _) (by omega)) | (exact covL_flat (flat_map (fun _ => rfl) _)) | (exact covL_flat flat_nil) | (refine covP_all ?_; (try clear nw); have nw := True.intro) | (refine covL_each ?_; (try clear nw); have nw := True.intro) | (refine ⟨?_, ?_⟩ <;> (try clear nw) <;> have nw := True.intro) | (guard_hyp nw : True; ((conv => whnf) <;> clear nw)))); (first | done | fail)) : p := h
theorem rnRefWrite4 {p : Prop} (h : p := by refine ⟨?_, ?_, ?_⟩; (first | apply rR_tuple | apply rR_one rfl | exact rfl); all_goals (repeat' (first | (with_reducible (first | exact relH_nil | apply rn_lst | apply rn_own | apply rn_mp | apply rn_row | apply rn_abs | exact wo_nil)) | apply wo_keep rfl | apply wo_drop rfl | exact relH_nil | exact r1_flat rfl | exact r0_flat rfl | exact rl_nil | exact wo_nil | exact bk_old rfl | exact bk_new rfl | exact bk_nil rfl | apply rl_cons | (first | exact relL_still hvs | exact relL_still (files_still _)) | exact relL_flat (flat_map (fun _ => rfl) _) | exact relL_flat flat_nil | apply relL_to | apply rn_lst | apply rn_own | apply rn_mp | apply rn_row | apply relH_view rfl | apply relH_lview rfl | apply relH_fact rfl | exact r1_rig | exact r0_rig | exact r1_rigs | exact r0_rigs | apply wo_keep rfl | apply wo_drop rfl | apply r1_agg | apply rn_ptr | apply rn_slice | apply rn_slice0 | apply rn_iface | apply rn_map | apply rn_ifacem | apply r0_map | apply r0_ifacem | apply r0_ptr | apply r0_slice | apply r0_slice0 | apply r0_iface)); (first | done | fail)) : p := h
set_option maxRecDepth 100000 in
set_option maxHeartbeats 2000000 in
theorem rmade_c (E : List RF) (c : Nat) (dk : Dk) (q : RK) (s : ByteArray) (hl : E.length ≤ 8) (hcE : E.length ≤ c) :
 CallOb Tryz.prog 33 [ptr 0, .string s] (rdG E.length c dk q (E.flatMap fileR)) 2 (fun v hh m => ∃ z : (Nat × List RF) × Nat, (MadeR E s z.1 ∧ z.1.2.length ≤ z.2) ∧ v = iv (z.1.1 : Nat) ∧ hh = [(0, .own 63 (rdv 31 z.1.2.length z.2 dk q)), (31, .lst 76 5 z.2 (z.1.2.flatMap fileR))] ∧ m = 40) := by
 have hvs := files_still E
 refine call_spec tabOk mixed Tryz.call33 Tryz.func33 rfl [] (fun z : (Nat × List RF) × Nat => MadeR E s z.1 ∧ z.1.2.length ≤ z.2) (fun z => iv (z.1.1 : Nat)) (fun z => [(0, .own 63 (rdv 31 z.1.2.length z.2 dk q)), (31, .lst 76 5 z.2 (z.1.2.flatMap fileR))]) (fun _ => 40) ?_ ?_
 · exact (Nat.le_of_ble_eq_true rfl)
 dsimp only [rdG, rdv]
 (repeat' ((try (conv => whnf)); first | (guard_target =~ ∃ (_ : Value), ∃ (_ : HP), ∃ (_ : HP), _; refine ⟨_, _, _, rnRefWrite4, ?_⟩; (try (dsimp only [Nat.reduceAdd, bC, bL]))) | (guard_target =~ CallOb _ 32 _ _ _ _; refine call_q (rplace_c E c dk q s hl) [(0, some 0), (1, some 1)] cvRefWrite3 rfT rfT rfT (fun v h1 n1 hp => ?_); obtain ⟨z, hz, rfl, rfl, rfl⟩ := hp; rcases hz with ⟨rfl, hz⟩ | ⟨k, x, hx, hnx, rfl⟩; all_goals (have hmk : 1 = 1 := rfl); all_goals (try (dsimp only [Nat.reduceAdd, bC, bL]))) | (guard_target =~ LoopOb _ _ _ _ _ _ _ _; refine loop_rule tabOk mixed [] 3 (fun k => [(0, ptr 0), (1, .string s), (6, mslice 2 (outL E s k.i k.a).length k.c), (7, iv k.v), (8, iv ((k.i : Nat) : Int))]) (fun k => [(0, .own 63 (rdv 1 E.length c dk q)), (1, .lst 76 5 c (E.flatMap fileR)), (2, .lst 76 5 k.c ((outL E s k.i k.a).flatMap fileR))]) (fun k => E.length - k.i) (fun k => MIR E s k) (⟨0, none, 0, -1⟩) (⟨Nat.zero_le _, (fun p h => by cases h), (fun p x h => by cases h), (fun j x h => absurd h.1 (Nat.not_lt_zero _)), Nat.zero_le _, rfl⟩) ⟨[(2, some 4)], Sub.q cvRefWrite3 (by rfl) (by rfl)⟩ (fun k hk => ?_)) | (guard_hyp k : MI; rcases k with ⟨i, a, cp, av⟩; have h1 := hk.le; have hlt := hk.lt; have h3 := hk.at1; have h4 := hk.no; have h5 := hk.ca; have h6 := hk.v; clear hk; dsimp only at h1 hlt h3 h4 h5 h6 ⊢; have h7 := out_len (E := E) (s := s) h1 hlt; rcases a with _ | p; all_goals (simp only [reduceCtorEq, if_true, if_false] at h7); all_goals (first | (have h8 : av = -1 := h6) | (have h8 : av = ((p : Nat) : Int) := h6; have h9 := hlt p rfl)); all_goals (have mkH : 1 = 1 := rfl)) | (guard_hyp mkH : 1 = 1; obtain ⟨x, hx⟩ : ∃ x, E[i]? = some x := ⟨_, List.getElem?_eq_getElem omT⟩; first | (refine onS_in (v := .string x.nm) (by show (E.flatMap fileR)[0 + i * 5 + 0]? = _; exact cell_rf hx (by decide) rfl) ?_; clear mkH; have mkG : 1 = 1 := rfl) | (refine onS_in (v := fileR x) (by show subL (E.flatMap fileR) (0 + i * 5) 5 = _; exact flat_sub (fun _ => rfl) hx omT) ?_; clear mkH)) | (guard_hyp mkG : 1 = 1; refine onS_in (v := fileR x) (by show subL (E.flatMap fileR) (0 + i * 5) 5 = _; exact flat_sub (fun _ => rfl) hx omT) ?_; clear mkG) | (refine ⟨i, rfl, by omega, ?_⟩) | (refine ⟨len_cells fileR 5 (fun _ => rfl) _, ?_⟩) | (refine ⟨len_rf1 rfl, ?_⟩) | (with_reducible first | refine chk_in (Nat.ble_eq_true_of_le omT) ?_ | (refine ifB_in ?_ ?_ <;> intro hb <;> (try simp only [bN1, bN2, bN3, bN4, bN5, bN6, bN7, bN8, bN9, bN0] at hb) <;> (try (exfalso; omega))) | refine ⟨_, w64b _, ?_⟩ | refine ⟨_, w64 omT omT, ?_⟩ | refine ⟨_, wu64 omT omT, ?_⟩ | refine ⟨_, wu8 omT omT, ?_⟩ | refine ⟨_, w64 szT szT, ?_⟩ | refine ⟨_, rfl, ?_⟩ | refine ⟨rfl, ?_⟩) | intro cap | (with_reducible refine ⟨trivial, ?_⟩) | (guard_target =~ (planChk _ _ = true) ∧ _; refine ⟨by kernel_rfl, ?_⟩) | (guard_target =~ (_ ∧ _) ∧ _; refine ⟨by ((repeat (first | exact trivial | refine ⟨rfl, ?_⟩)); (first | done | fail)), ?_⟩) | refine ⟨by omega, ?_⟩ | refine ⟨szT, ?_⟩ | refine ⟨0, rfl, ?_⟩ | refine ⟨1, rfl, ?_⟩ | refine ⟨2, rfl, ?_⟩ | refine ⟨3, rfl, ?_⟩ | refine ⟨4, rfl, ?_⟩ | refine ⟨5, rfl, ?_⟩ | (refine cell_at1 (by assumption) ?_) | (refine cell_in1 omT (fun x hx => ?_)) | fail)) <;> (try (conv => whnf))
 all_goals first
  | (exfalso; omega)
  | (guard_hyp hb : strLt s x.nm = true; rename_i cn; have mkN : 1 = 1 := rfl; have e1 : (outL E s (i + 1) (some i)).length = (outL E s i none).length + 1 + 1 := (by rw [out_new hx, List.length_append]; rfl); (refine Again.go ((⟨i + 1, some i, cn, (i : Nat)⟩ : MI)) ?_ (by (try dsimp only); omega) [(2, some 6)] (Sub.q cvRefWrite3 (by rfl) (by rfl))); exact ⟨by dsimp only; omega, (fun p hp => by cases hp; dsimp only; omega), (fun p y hp hy => by cases hp; rw [hx] at hy; cases hy; exact hb), (fun j y hj hy => h4 j y ⟨hj.2 i rfl, (fun p hp => by cases hp)⟩ hy), (by dsimp only; rw [out_new hx, List.length_append]; exact cap), rfl⟩)
  | (guard_hyp hb : strLt s x.nm = false; rename_i cn; have e1 : (outL E s (i + 1) none).length = (outL E s i none).length + 1 := (by rw [out_more hx hlt, List.length_append]; rfl); (refine Again.go ((⟨i + 1, none, cn, av⟩ : MI)) ?_ (by (try dsimp only); omega) [(2, some 4)] (Sub.q cvRefWrite3 (by rfl) (by rfl))); exact ⟨by dsimp only; omega, (fun p hp => by cases hp), (fun p y hp => by cases hp), (fun j y hj hy => by
   rcases Nat.lt_or_ge j i with h | h
   · exact h4 j y ⟨h, hj.2⟩ hy
   · obtain rfl : j = i := by have := hj.1; dsimp only at this; omega
     rw [hx] at hy; cases hy; exact ‹strLt s x.nm = false›), (by dsimp only; rw [out_more hx hlt, List.length_append]; exact cap), h8⟩)
  | (guard_hyp hx : E[i]? = some x; rename_i cn; have e1 : (outL E s (i + 1) (some p)).length = (outL E s i (some p)).length + 1 := (by rw [out_more hx hlt, List.length_append]; rfl); (refine Again.go ((⟨i + 1, some p, cn, av⟩ : MI)) ?_ (by (try dsimp only); omega) [(2, some 4)] (Sub.q cvRefWrite3 (by rfl) (by rfl))); exact ⟨by dsimp only; omega, (fun p' hp => by cases hp; dsimp only; omega), h3, (fun j y hj hy => h4 j y ⟨Nat.lt_trans (hj.2 p rfl) h9, hj.2⟩ hy), (by dsimp only; rw [out_more hx hlt, List.length_append]; exact cap), h8⟩)
  | (guard_hyp h7 : (outL E s i none).length = i; obtain rfl : i = E.length := (by omega); rename_i cn; have e1 := ins_len (E := E) (s := s) (p := E.length) (Nat.le_refl _); (refine Ends.go ((((E.length, insP E s E.length), cn) : (Nat × List RF) × Nat)) ?_ [(31, some 4)] (Fit.q cvRefWrite3 (by rfl) (by rfl))); exact ⟨.inr ⟨hz, Nat.le_refl _, rfl, (fun x hx => by have := (List.getElem?_eq_some_iff.1 hx).1; dsimp only at this; omega), fun j x hj hx => h4 j x ⟨hj, (fun p hp => by cases hp)⟩ hx⟩, (by dsimp only; rw [ins_end, List.length_append]; exact cap)⟩)
  | (guard_hyp h9 : p < i; obtain rfl : i = E.length := (by omega); have e1 := ins_len (E := E) (s := s) (p := p) (by omega); (refine Ends.go ((((p, insP E s p), cp) : (Nat × List RF) × Nat)) ?_ [(31, some 2)] (Fit.q cvRefWrite3 (by rfl) (by rfl))); exact ⟨.inr ⟨hz, by dsimp only; omega, rfl, (fun x hx => h3 p x rfl hx), fun j x hj hx => h4 j x ⟨Nat.lt_trans hj h9, (fun p' hp => by cases hp; exact hj)⟩ hx⟩, (by dsimp only; rw [← out_end]; exact h5)⟩)
  | (guard_hyp hnx : x.nm = s; (refine Ends.go ((((k, E), c) : (Nat × List RF) × Nat)) ?_ [(31, some 1)] (Fit.q cvRefWrite3 (by rfl) (by rfl))); exact ⟨.inl ⟨rfl, x, hx, hnx⟩, hcE⟩)
  | trace_state
theorem one_rf (E : List RF) : oneAll (E.flatMap fileR) = true := by
 unfold oneAll
 rw [List.all_eq_true]
 intro v hv
 obtain ⟨y, _, hy⟩ := List.mem_flatMap.1 hv
 simp only [fileR, List.mem_cons, List.not_mem_nil, or_false] at hy
 rcases hy with rfl | rfl | rfl | rfl | rfl <;> rfl
theorem sub_rtake {E : List RF} {p : Nat} (hp : p ≤ E.length) : subL (E.flatMap fileR) 0 (p * 5) = some ((E.take p).flatMap fileR) :=
 subL_in (by rw [List.drop_zero, take_cells fileR 5 (fun _ => rfl)]) (by rw [len_cells fileR 5 (fun _ => rfl), List.length_take]; omega) (fun _ => Nat.zero_le _)
theorem drop_cells {α : Type} (f : α → List Value) (z : Nat) (hf : ∀ a, (f a).length = z) : ∀ (l : List α) (n : Nat), (l.flatMap f).drop (n * z) = (l.drop n).flatMap f
 | [], n => by simp
 | a :: l, 0 => by simp
 | a :: l, n + 1 => by
  rw [List.flatMap_cons, List.drop_succ_cons, ← drop_cells f z hf l n, show (n + 1) * z = (f a).length + n * z by rw [hf, Nat.add_mul, Nat.one_mul]; omega, List.drop_length_add_append]
theorem sub_rdrop {E : List RF} {p n : Nat} (hp : p ≤ E.length) (hn : n = E.length - p) : subL (E.flatMap fileR) (0 + p * 5) (n * 5) = some ((E.drop p).flatMap fileR) := by
 subst hn
 refine subL_in ?_ (by rw [len_cells fileR 5 (fun _ => rfl), List.length_drop]) (fun _ => by rw [len_cells fileR 5 (fun _ => rfl)]; omega)
 rw [Nat.zero_add, drop_cells fileR 5 (fun _ => rfl), List.take_of_length_le (by rw [len_cells fileR 5 (fun _ => rfl), List.length_drop]; omega)]
def goneL (E : List RF) (p : Nat) : List RF := E.take p ++ E.drop (p + 1)
theorem gone_len {E : List RF} {p : Nat} (hp : p < E.length) : (goneL E p).length = E.length - 1 := by
 unfold goneL
 rw [List.length_append, List.length_take, List.length_drop]
 omega
theorem cov_gone {np : Nat} {L : IdMap} {E : List RF} {p : Nat} : covL np L ((goneL E p).flatMap fileR) (([] ++ (E.take p).flatMap fileR) ++ (E.drop (p + 1)).flatMap fileR) :=
 covL_still (by unfold goneL; rw [List.nil_append, List.flatMap_append]) (files_still _)
theorem cov_gone0 {np : Nat} {L : IdMap} {E : List RF} {p : Nat} (h : p + 1 = E.length) : covL np L ((goneL E p).flatMap fileR) (([] ++ (E.take p).flatMap fileR) ++ []) :=
 covL_still (by unfold goneL; rw [h, List.drop_length, List.nil_append, List.append_nil, List.append_nil]) (files_still _)
theorem cvRefWrite5 {p : Prop} (h : p := by have nw := True.intro; (repeat' (first | exact True.intro | (with_reducible exact rfl) | (with_reducible exact AbsLe.refl) | (guard_target =~ @Eq Nat _ _; first | exact rfl | omega) | (guard_target =~ List.map _ _ = []; exact rfl) | (first | (guard_target =~ @Eq Nat _ _; (try dsimp only); omega) | exact cov_gone | exact cov_gone0 (by omega) | exact covL_still rfl (files_still _) | exact congrArg (Value.int _) (by (try dsimp only); omega) | (guard_target =~ @Eq Value _ _; exact rfl)) | (exact congrArg (Value.int _) (by omega)) | (exact covL_flat (flat_map (fun _ => rfl) _)) | (exact covL_flat flat_nil) | (refine covP_all ?_; (try clear nw); have nw := True.intro) | (refine covL_each ?_; (try clear nw); have nw := True.intro) | (refine ⟨?_, ?_⟩ <;> (try clear nw) <;> have nw := True.intro) | (guard_hyp nw : True; ((conv => whnf) <;> clear nw)))); (first | done | fail)) : p := h
set_option maxRecDepth 100000 in
theorem rgone_c (E : List RF) (c : Nat) (dk : Dk) (q : RK) (p : Nat) (hl : E.length ≤ 8) (hcE : E.length ≤ c) (hp : p < E.length) :
 CallOb Tryz.prog 78 [ptr 0, iv (p : Nat)] (rdG E.length c dk q (E.flatMap fileR)) 2 (fun v hh m => ∃ z : Nat, (goneL E p).length ≤ z ∧ v = .tuple ([] : List Value).toArray ∧ hh = [(0, .own 63 (rdv 31 (goneL E p).length z dk q)), (31, .lst 76 5 z ((goneL E p).flatMap fileR))] ∧ m = 40) := by
 have hvs := files_still E
 have hg := gone_len hp
 have hm0 : 1 = 1 := rfl
 refine call_spec tabOk mixed Tryz.call78 Tryz.func78 rfl [] (fun z : Nat => (goneL E p).length ≤ z) (fun z => .tuple ([] : List Value).toArray) (fun z => [(0, .own 63 (rdv 31 (goneL E p).length z dk q)), (31, .lst 76 5 z ((goneL E p).flatMap fileR))]) (fun _ => 40) ?_ ?_
 · exact (Nat.le_of_ble_eq_true rfl)
 dsimp only [rdG, rdv]
 (repeat' ((try (conv => whnf)); first | (guard_target =~ ∃ (_ : Value), ∃ (_ : HP), ∃ (_ : HP), _; refine ⟨_, _, _, rnRefWrite4, ?_⟩; (try (dsimp only [Nat.reduceAdd, bC, bL]))) | (guard_target =~ ∃ (k : Nat), (k : Int) = ((p : Nat) : Int) ∧ _; refine ⟨p, rfl, ?_⟩) | (guard_target =~ ∃ (k : Nat), (k : Int) = ((p : Nat) : Int) + 1 ∧ _; refine ⟨p + 1, by omega, ?_⟩) | (guard_target =~ (_ < c → _) ∧ _; refine ⟨fun hlt => ?_, fun hge => ?_⟩; all_goals (have mkS : 1 = 1 := rfl)) | (guard_hyp hlt : p + 1 < c; guard_hyp mkS : 1 = 1; refine onS_in (sub_rdrop (E := E) (p := p + 1) omT rfl) ?_; clear mkS; have mkT : 1 = 1 := rfl) | (guard_hyp hge : p + 1 = c; guard_hyp mkS : 1 = 1; refine onS_in (v := []) (by show subL (E.flatMap fileR) 0 (0 * 5) = _; exact sub_rtake (p := 0) (Nat.zero_le _)) ?_; clear mkS) | (guard_hyp hm0 : 1 = 1; refine onS_in (sub_rtake (E := E) (p := p) omT) ?_; clear hm0) | (refine chk_in (one_rf _) ?_) | (refine ⟨(by rw [List.nil_append, len_cells fileR 5 (fun _ => rfl), List.length_take]; omega), ?_⟩) | (with_reducible first | refine chk_in (Nat.ble_eq_true_of_le omT) ?_ | (refine ifB_in ?_ ?_ <;> intro hb <;> (try simp only [bN1, bN2, bN3, bN4, bN5, bN6, bN7, bN8, bN9, bN0] at hb) <;> (try (exfalso; omega))) | refine ⟨_, w64b _, ?_⟩ | refine ⟨_, w64 omT omT, ?_⟩ | refine ⟨_, wu64 omT omT, ?_⟩ | refine ⟨_, wu8 omT omT, ?_⟩ | refine ⟨_, w64 szT szT, ?_⟩ | refine ⟨_, rfl, ?_⟩ | refine ⟨rfl, ?_⟩) | intro cap | (with_reducible refine ⟨trivial, ?_⟩) | (guard_target =~ (planChk _ _ = true) ∧ _; refine ⟨by kernel_rfl, ?_⟩) | (guard_target =~ (_ ∧ _) ∧ _; refine ⟨by ((repeat (first | exact trivial | refine ⟨rfl, ?_⟩)); (first | done | fail)), ?_⟩) | refine ⟨by omega, ?_⟩ | refine ⟨szT, ?_⟩ | refine ⟨0, rfl, ?_⟩ | refine ⟨1, rfl, ?_⟩ | refine ⟨2, rfl, ?_⟩ | refine ⟨3, rfl, ?_⟩ | refine ⟨4, rfl, ?_⟩ | refine ⟨5, rfl, ?_⟩ | (refine cell_at1 (by assumption) ?_) | (refine cell_in1 omT (fun x hx => ?_)) | fail)) <;> (try (conv => whnf))
 all_goals first
  | (rename_i cn; (refine Ends.go (cn) ?_ [(31, some 4)] (Fit.q cvRefWrite5 (by rfl) (by rfl))); omega)
  | trace_state
end Go.Proofs.YtelolcagncgfpaaGreat
namespace Go.Proofs.YtelolcagncgfpaaGreat
open Go.RowKit
set_option linter.unusedSimpArgs false
set_option linter.unusedVariables false
abbrev opH (i : Nat) (c : Nat) (k : Dk) (q : RK) (E : List RF) (S : Nat → Prop) : HP := [(0, .own 63 (rdv i E.length c k q)), (i, .lst 76 5 c (E.flatMap fileR)), (2, fzI S E)]
structure OpR (k : Dk) (q : RK) (E : List RF) (c : Nat) : Prop where
 fit : k.Fit
 rk : q.Ok k
 fs : (filesR E).Ok
 le : E.length ≤ c
 cap : ∀ e ∈ E, e.Cap
theorem OpR.len {k : Dk} {q : RK} {E : List RF} {c : Nat} (h : OpR k q E c) : E.length ≤ 8 := by have := h.fs.few; rwa [List.length_map] at this
theorem OpR.ok {k : Dk} {q : RK} {E : List RF} {c : Nat} (h : OpR k q E c) {e : RF} (he : e ∈ E) : e.X.Ok := h.fs.files (e.nm, e.X) (List.mem_map.2 ⟨e, he, rfl⟩)
theorem fz_mem {S : Nat → Prop} {E : List RF} {x : RF} (hx : x ∈ E) : ∀ w, FzP S E w → FzOk S w x := fun w h => h x hx
theorem read_1 {k k' : Dk} {E : List RF} {s : ByteArray} {i e : Int} (h : (e, k') = begS k s true) (he : ¬ e = 0) : ((⟨#[]⟩, e), (⟨k', filesR E⟩ : DM)) = readD ⟨k, filesR E⟩ s i := by
 unfold readD foundD
 dsimp only
 rw [← h]
 dsimp only
 rw [if_pos he, if_pos he]
theorem read_2 {k k' : Dk} {E : List RF} {s : ByteArray} {i e : Int} (h : (e, k') = begS k s true) (he : e = 0) (hn : findF (filesR E) s = none) : ((⟨#[]⟩, 14), (⟨k', filesR E⟩ : DM)) = readD ⟨k, filesR E⟩ s i := by
 unfold readD foundD
 dsimp only
 rw [← h, hn]
 subst he
 rfl
theorem read_3 {k k' : Dk} {E : List RF} {s : ByteArray} {i e : Int} {X : Fl} {r : ByteArray × Int} (h : (e, k') = begS k s true) (he : e = 0) (hn : findF (filesR E) s = some X) (hr : r = readF X i) : (r, (⟨k', filesR E⟩ : DM)) = readD ⟨k, filesR E⟩ s i := by
 unfold readD foundD
 dsimp only
 rw [← h, hn, hr]
 subst he
 rfl
theorem readF_out {X : Fl} {i : Int} (h : i < 0 ∨ (X.now.length : Int) ≤ i) : (⟨#[]⟩, 14) = readF X i := by
 unfold readF
 by_cases h0 : i < 0
 · rw [if_pos h0]
 · rw [if_neg h0, List.getElem?_eq_none (by omega)]; rfl
theorem readF_torn {X : Fl} {i : Int} {c : Cv} (h0 : 0 ≤ i) (h : X.now[i.toNat]? = some c) (hc : c.isNone = true) : (⟨#[]⟩, 13) = readF X i := by
 unfold readF
 rw [if_neg (by omega), h]
 cases c with
 | none => rfl
 | some d => cases hc
theorem readF_is {X : Fl} {i : Int} {c : Cv} (h0 : 0 ≤ i) (h : X.now[i.toNat]? = some c) (hc : c.isNone = false) : (c.getD ⟨#[]⟩, 0) = readF X i := by
 unfold readF
 rw [if_neg (by omega), h]
 cases c with
 | none => cases hc
 | some d => rfl
attribute [local irreducible] bytesOf strOf strEq strLt sfrom begS goodName readD writeD syncD cutD dropD
theorem cvRefWrite6 {p : Prop} (h : p := by have nw := True.intro; (repeat' (first | exact True.intro | (with_reducible exact rfl) | (with_reducible exact AbsLe.refl) | (guard_target =~ @Eq Nat _ _; first | exact rfl | omega) | (guard_target =~ List.map _ _ = []; exact rfl) | (first | (guard_target =~ @Eq Nat _ _; (try dsimp only); omega) | exact covL_still rfl (files_still _) | exact congrArg (Value.int _) (by (try dsimp only); omega) | (guard_target =~ @Eq Value _ _; exact rfl)) | (exact congrArg (Value.int _) (by omega)) | (exact covL_flat (flat_map (fun _ => rfl) _)) | (exact covL_flat flat_nil) | (refine covP_all ?_; (try clear nw); have nw := True.intro) | (refine covL_each ?_; (try clear nw); have nw := True.intro) | (refine ⟨?_, ?_⟩ <;> (try clear nw) <;> have nw := True.intro) | (guard_hyp nw : True; ((conv => whnf) <;> clear nw)))); (first | done | fail)) : p := h
set_option maxRecDepth 100000 in
theorem rread_o (E : List RF) (c : Nat) (k : Dk) (q : RK) (S : Nat → Prop) (s : ByteArray) (i : Int) (hO : OpR k q E c) :
 CallOb Tryz.prog 38 [ptr 0, .string s, iv i] (opH 1 c k q E S) 3 (fun v hh m => ∃ z : (ByteArray × Int) × Dk × RK, ((z.1, ⟨z.2.1, filesR E⟩) = readD ⟨k, filesR E⟩ s i ∧ z.2.2.Ok z.2.1) ∧ v = .tuple #[.string z.1.1, iv z.1.2] ∧ hh = opH 1 c z.2.1 z.2.2 E S ∧ m = 3) := by
 refine call_spec tabOk mixed Tryz.call38 Tryz.func38 rfl [] (fun z : (ByteArray × Int) × Dk × RK => (z.1, ⟨z.2.1, filesR E⟩) = readD ⟨k, filesR E⟩ s i ∧ z.2.2.Ok z.2.1) (fun z => .tuple #[.string z.1.1, iv z.1.2]) (fun z => opH 1 c z.2.1 z.2.2 E S) (fun _ => 3) ?_ ?_
 · exact (Nat.le_of_ble_eq_true rfl)
 dsimp only [opH, rdv]
 (repeat' ((try (conv => whnf)); first | (guard_target =~ ∃ (_ : Value), ∃ (_ : HP), ∃ (_ : HP), _; refine ⟨_, _, _, rnRefWrite4, ?_⟩; (try (dsimp only [Nat.reduceAdd, bC, bL]))) | (guard_target =~ CallOb _ 68 _ _ _ _; refine call_q (rbegin_c E.length c k q s false (E.flatMap fileR) (files_still E) hO.fit hO.rk) [(0, some 0), (1, some 1)] cvRefWrite6 rfT rfT rfT (fun v h1 n1 hp => ?_); obtain ⟨⟨e1, k1, q1⟩, ⟨hb1, hq1⟩, rfl, rfl, rfl⟩ := hp; dsimp only at hb1 hq1; simp only [Bool.not_false] at hb1; (try (dsimp only [Nat.reduceAdd, bC, bL]))) | (guard_target =~ CallOb _ 32 _ _ _ _; refine call_q (rplace_c E c k1 q1 s hO.len) [(0, some 0), (1, some 1)] cvRefWrite6 rfT rfT rfT (fun v h1 n1 hp => ?_); obtain ⟨z, hz, rfl, rfl, rfl⟩ := hp; obtain ⟨zv, hzv⟩ : ∃ y : Int, y = z := ⟨z, rfl⟩; rcases hz with ⟨hzn, hz⟩ | ⟨p, x, hx, hnx, hzp⟩; all_goals (rw [← hzv]); all_goals (first | (have hno := place_none hz) | (have hxm := List.mem_of_getElem? hx; have hpl := (List.getElem?_eq_some_iff.1 hx).1; have hfd := place_some hO.fs.sorted hx hnx; have hcx := hO.cap x hxm; have hxo := hO.ok hxm; have hxl := hxo.len; have hka := hcx.a.le; have hkb := hcx.b.le; have hkc := hcx.c.le; have hxs := hxo.safe; have hxw := hxo.wait)); all_goals (try (dsimp only [Nat.reduceAdd, bC, bL]))) | (guard_hyp hx : E[p]? = some x; first | refine onS_in (v := rs x.a x.X.now.length x.ka) (by show (E.flatMap fileR)[0 + p * 5 + 1]? = _; exact cell_rf hx (by decide) rfl) ?_ | refine onS_in (v := fileR x) (by show subL (E.flatMap fileR) (0 + p * 5) 5 = _; exact flat_sub (fun _ => rfl) hx omT) ?_) | (guard_target =~ ∃ (k : Nat), (k : Int) = zv ∧ _; refine ⟨p, by omega, ?_⟩) | (guard_target =~ ∃ (k : Nat), (k : Int) = i ∧ _; first | (guard_hyp hcv : _ = some cv; refine ⟨i.toNat, by omega, by omega, g, o, hga, ?_⟩) | (obtain ⟨g, o, hpa, hga⟩ := plc_at hcx.a (show 0 < x.X.now.length by omega); obtain ⟨cv, hcv⟩ : ∃ cv, x.X.now[i.toNat]? = some cv := ⟨_, List.getElem?_eq_getElem omT⟩; refine ⟨i.toNat, by omega, by omega, g, o, hga, ?_⟩)) | (guard_target =~ ∃ _, RigLd _ _ _ _ _ _ ∧ _; first | refine ⟨.bool cv.isNone, rig_cell (i := 2) (S := S) (E := E) (f := 2) rfl (fz_mem hxm) hpa hcv ⟨_, rfl, rfl⟩ rfl rfl (by decide) rfl, ?_⟩ | refine ⟨.string (cv.getD ⟨#[]⟩), rig_cell (i := 2) (S := S) (E := E) (f := 1) rfl (fz_mem hxm) hpa hcv ⟨_, rfl, rfl⟩ rfl rfl (by decide) rfl, ?_⟩) | (with_reducible first | refine chk_in (Nat.ble_eq_true_of_le omT) ?_ | (refine ifB_in ?_ ?_ <;> intro hb <;> (try simp only [bN1, bN2, bN3, bN4, bN5, bN6, bN7, bN8, bN9, bN0] at hb) <;> (try (exfalso; omega))) | refine ⟨_, w64b _, ?_⟩ | refine ⟨_, w64 omT omT, ?_⟩ | refine ⟨_, wu64 omT omT, ?_⟩ | refine ⟨_, wu8 omT omT, ?_⟩ | refine ⟨_, w64 szT szT, ?_⟩ | refine ⟨_, rfl, ?_⟩ | refine ⟨rfl, ?_⟩) | intro cap | (with_reducible refine ⟨trivial, ?_⟩) | (guard_target =~ (planChk _ _ = true) ∧ _; refine ⟨by kernel_rfl, ?_⟩) | (guard_target =~ (_ ∧ _) ∧ _; refine ⟨by ((repeat (first | exact trivial | refine ⟨rfl, ?_⟩)); (first | done | fail)), ?_⟩) | refine ⟨by omega, ?_⟩ | refine ⟨szT, ?_⟩ | refine ⟨0, rfl, ?_⟩ | refine ⟨1, rfl, ?_⟩ | refine ⟨2, rfl, ?_⟩ | refine ⟨3, rfl, ?_⟩ | refine ⟨4, rfl, ?_⟩ | refine ⟨5, rfl, ?_⟩ | (refine cell_at1 (by assumption) ?_) | (refine cell_in1 omT (fun x hx => ?_)) | fail)) <;> (try (conv => whnf))
 all_goals first
  | (guard_hyp hb : ¬ e1 = 0; (refine Ends.go (((⟨#[]⟩, e1), k1, q1)) ?_ [] (Fit.q cvRefWrite6 (by rfl) (by rfl))); exact ⟨read_1 hb1 hb, hq1⟩)
  | (guard_hyp hno : findF (filesR E) s = none; (refine Ends.go (((⟨#[]⟩, 14), k1, q1)) ?_ [] (Fit.q cvRefWrite6 (by rfl) (by rfl))); exact ⟨read_2 hb1 ‹e1 = 0› hno, hq1⟩)
  | (guard_hyp hb : cv.isNone = true; (refine Ends.go (((⟨#[]⟩, 13), k1, q1)) ?_ [] (Fit.q cvRefWrite6 (by rfl) (by rfl))); exact ⟨read_3 hb1 ‹e1 = 0› hfd (readF_torn (by omega) hcv hb), hq1⟩)
  | (guard_hyp hb : cv.isNone = false; (refine Ends.go (((cv.getD ⟨#[]⟩, 0), k1, q1)) ?_ [] (Fit.q cvRefWrite6 (by rfl) (by rfl))); exact ⟨read_3 hb1 ‹e1 = 0› hfd (readF_is (by omega) hcv hb), hq1⟩)
  | (guard_hyp hfd : _ = some x.X; (refine Ends.go (((⟨#[]⟩, 14), k1, q1)) ?_ [] (Fit.q cvRefWrite6 (by rfl) (by rfl))); exact ⟨read_3 hb1 ‹e1 = 0› hfd (readF_out (by omega)), hq1⟩)
  | trace_state
theorem drop_1 {k k' : Dk} {E : List RF} {s : ByteArray} {e : Int} (h : (e, k') = begS k s true) (he : ¬ e = 0) : (e, (⟨k', filesR E⟩ : DM)) = dropD ⟨k, filesR E⟩ s := by
 unfold dropD foundD
 dsimp only
 rw [← h]
 dsimp only
 rw [if_pos he, if_pos he]
theorem drop_2 {k k' : Dk} {E : List RF} {s : ByteArray} {e : Int} (h : (e, k') = begS k s true) (he : e = 0) (hn : findF (filesR E) s = none) : (14, (⟨k', filesR E⟩ : DM)) = dropD ⟨k, filesR E⟩ s := by
 unfold dropD foundD
 dsimp only
 rw [← h, hn]
 subst he
 rfl
theorem files_split {E : List RF} {p : Nat} {x : RF} (hx : E[p]? = some x) : filesR E = filesR (E.take p) ++ (x.nm, x.X) :: filesR (E.drop (p + 1)) := by
 have : E = E.take p ++ x :: E.drop (p + 1) := by rw [← drop_at hx, List.take_append_drop]
 conv => lhs; rw [this]
 simp [filesR]
theorem drop_3 {k k' : Dk} {E : List RF} {s : ByteArray} {e : Int} {p : Nat} {x : RF} (h : (e, k') = begS k s true) (he : e = 0) (hs : Sorted (filesR E)) (hx : E[p]? = some x) (hnx : x.nm = s) : (0, (⟨k', filesR (goneL E p)⟩ : DM)) = dropD ⟨k, filesR E⟩ s := by
 have hfd := place_some hs hx hnx
 unfold dropD foundD
 dsimp only
 rw [← h, hfd]
 subst he
 have e1 := files_split hx
 have hd : delF (filesR E) s = filesR (goneL E p) := by
  rw [e1] at hs ⊢
  rw [hnx] at hs ⊢
  rw [del_mid hs]
  unfold goneL filesR
  rw [List.map_append]
 show _ = ((0 : Int), (⟨k', delF (filesR E) s⟩ : DM))
 rw [hd]
theorem gone_sub {E : List RF} {p : Nat} {e : RF} (h : e ∈ goneL E p) : e ∈ E := by
 unfold goneL at h
 rcases List.mem_append.1 h with h | h
 · exact List.mem_of_mem_take h
 · exact List.mem_of_mem_drop h
structure LsR where
 e : Int
 k : Dk
 q : RK
 E : List RF
 c : Nat
abbrev lsH (E0 : List RF) (S : Nat → Prop) (z : LsR) : HP := [(0, .own 63 (rdv 31 z.E.length z.c z.k z.q)), (31, .lst 76 5 z.c (z.E.flatMap fileR)), (2, fzI S E0)]
set_option maxRecDepth 100000 in
theorem rdrop_o (E : List RF) (c : Nat) (k : Dk) (q : RK) (S : Nat → Prop) (s : ByteArray) (hO : OpR k q E c) :
 CallOb Tryz.prog 49 [ptr 0, .string s] (opH 1 c k q E S) 3 (fun v hh m => ∃ z : LsR, ((z.e, ⟨z.k, filesR z.E⟩) = dropD ⟨k, filesR E⟩ s ∧ z.q.Ok z.k ∧ (∀ e ∈ z.E, e ∈ E) ∧ z.E.length ≤ z.c) ∧ v = iv z.e ∧ hh = lsH E S z ∧ m = 60) := by
 refine call_spec tabOk mixed Tryz.call49 Tryz.func49 rfl [] (fun z : LsR => (z.e, ⟨z.k, filesR z.E⟩) = dropD ⟨k, filesR E⟩ s ∧ z.q.Ok z.k ∧ (∀ e ∈ z.E, e ∈ E) ∧ z.E.length ≤ z.c) (fun z => iv z.e) (fun z => lsH E S z) (fun _ => 60) ?_ ?_
 · exact (Nat.le_of_ble_eq_true rfl)
 dsimp only [opH, rdv]
 (repeat' ((try (conv => whnf)); first | (guard_target =~ ∃ (_ : Value), ∃ (_ : HP), ∃ (_ : HP), _; refine ⟨_, _, _, rnRefWrite4, ?_⟩; (try (dsimp only [Nat.reduceAdd, bC, bL]))) | (guard_target =~ CallOb _ 68 _ _ _ _; refine call_q (rbegin_c E.length c k q s false (E.flatMap fileR) (files_still E) hO.fit hO.rk) [(0, some 0), (1, some 1)] cvRefWrite6 rfT rfT rfT (fun v h1 n1 hp => ?_); obtain ⟨⟨e1, k1, q1⟩, ⟨hb1, hq1⟩, rfl, rfl, rfl⟩ := hp; dsimp only at hb1 hq1; simp only [Bool.not_false] at hb1; (try (dsimp only [Nat.reduceAdd, bC, bL]))) | (guard_target =~ CallOb _ 32 _ _ _ _; refine call_q (rplace_c E c k1 q1 s hO.len) [(0, some 0), (1, some 1)] cvRefWrite6 rfT rfT rfT (fun v h1 n1 hp => ?_); obtain ⟨z, hz, rfl, rfl, rfl⟩ := hp; obtain ⟨zv, hzv⟩ : ∃ y : Int, y = z := ⟨z, rfl⟩; rcases hz with ⟨hzn, hz⟩ | ⟨p, x, hx, hnx, hzp⟩; all_goals (rw [← hzv]); all_goals (first | (have hno := place_none hz) | (have hxm := List.mem_of_getElem? hx; have hpl := (List.getElem?_eq_some_iff.1 hx).1; have hfd := place_some hO.fs.sorted hx hnx; have hcx := hO.cap x hxm; have hxo := hO.ok hxm; have hxl := hxo.len; have hka := hcx.a.le; have hkb := hcx.b.le; have hkc := hcx.c.le; have hxs := hxo.safe; have hxw := hxo.wait)); all_goals (try (dsimp only [Nat.reduceAdd, bC, bL]))) | (guard_target =~ CallOb _ 78 _ _ _ _; obtain rfl : zv = ((p : Nat) : Int) := omT; refine call_q (rgone_c E c k1 q1 p hO.len hO.le hpl) [(0, some 0), (1, some 1)] cvRefWrite6 rfT rfT rfT (fun v h1 n1 hp => ?_); obtain ⟨c2, hc2, rfl, rfl, rfl⟩ := hp; (try (dsimp only [Nat.reduceAdd, bC, bL]))) | (with_reducible first | refine chk_in (Nat.ble_eq_true_of_le omT) ?_ | (refine ifB_in ?_ ?_ <;> intro hb <;> (try simp only [bN1, bN2, bN3, bN4, bN5, bN6, bN7, bN8, bN9, bN0] at hb) <;> (try (exfalso; omega))) | refine ⟨_, w64b _, ?_⟩ | refine ⟨_, w64 omT omT, ?_⟩ | refine ⟨_, wu64 omT omT, ?_⟩ | refine ⟨_, wu8 omT omT, ?_⟩ | refine ⟨_, w64 szT szT, ?_⟩ | refine ⟨_, rfl, ?_⟩ | refine ⟨rfl, ?_⟩) | intro cap | (with_reducible refine ⟨trivial, ?_⟩) | (guard_target =~ (planChk _ _ = true) ∧ _; refine ⟨by kernel_rfl, ?_⟩) | (guard_target =~ (_ ∧ _) ∧ _; refine ⟨by ((repeat (first | exact trivial | refine ⟨rfl, ?_⟩)); (first | done | fail)), ?_⟩) | refine ⟨by omega, ?_⟩ | refine ⟨szT, ?_⟩ | refine ⟨0, rfl, ?_⟩ | refine ⟨1, rfl, ?_⟩ | refine ⟨2, rfl, ?_⟩ | refine ⟨3, rfl, ?_⟩ | refine ⟨4, rfl, ?_⟩ | refine ⟨5, rfl, ?_⟩ | (refine cell_at1 (by assumption) ?_) | (refine cell_in1 omT (fun x hx => ?_)) | fail)) <;> (try (conv => whnf))
 all_goals first
  | (guard_hyp hb : ¬ e1 = 0; (refine Ends.go ((⟨e1, k1, q1, E, c⟩ : LsR)) ?_ [(31, some 1)] (Fit.q cvRefWrite6 (by rfl) (by rfl))); exact ⟨drop_1 hb1 hb, hq1, fun _ h => h, hO.le⟩)
  | (guard_hyp hno : findF (filesR E) s = none; first | (exfalso; omega) | ((refine Ends.go ((⟨14, k1, q1, E, c⟩ : LsR)) ?_ [(31, some 1)] (Fit.q cvRefWrite6 (by rfl) (by rfl))); exact ⟨drop_2 hb1 ‹e1 = 0› hno, hq1, fun _ h => h, hO.le⟩))
  | (guard_hyp hc2 : _ ≤ c2; (refine Ends.go ((⟨0, k1, q1, goneL E p, c2⟩ : LsR)) ?_ [(31, some 38)] (Fit.q cvRefWrite6 (by rfl) (by rfl))); exact ⟨drop_3 hb1 ‹e1 = 0› hO.fs.sorted hx hnx, hq1, fun e he => gone_sub he, hc2⟩)
  | trace_state
def rowP (E : List RF) (p : Nat) (vs : List Value) : List Value := (E.take p).flatMap fileR ++ (vs ++ (E.drop (p + 1)).flatMap fileR)
theorem row_same {E : List RF} {p : Nat} {x : RF} (hx : E[p]? = some x) : E.flatMap fileR = rowP E p (fileR x) := by
 have : E = E.take p ++ x :: E.drop (p + 1) := by rw [← drop_at hx, List.take_append_drop]
 conv => lhs; rw [this]
 unfold rowP
 rw [List.flatMap_append, List.flatMap_cons]
theorem row_set {E : List RF} {p : Nat} (hp : p < E.length) (y : RF) : rowP E p (fileR y) = (E.set p y).flatMap fileR := by
 rw [row_same (E := E.set p y) (p := p) (x := y) (by rw [List.getElem?_set_self hp])]
 unfold rowP
 rw [List.take_set_of_le (Nat.le_refl _), List.drop_set_of_lt (by omega)]
theorem putL_app : ∀ {a b : List Value} {vs : List Value} (o : Nat), o = a.length → putL (a ++ b) o vs = a ++ putL b 0 vs
 | [], b, vs, o, h => by subst h; rfl
 | x :: a, b, [], o, h => rfl
 | x :: a, b, v :: vs, o, h => by
  have key : ∀ (vs : List Value) (l : List Value) (o : Nat) (y : Value), putL (y :: l) (o + 1) vs = y :: putL l o vs := by
   intro vs
   induction vs with
   | nil => intro l o y; rfl
   | cons v vs ih => intro l o y; show putL ((y :: l).set (o + 1) v) (o + 1 + 1) vs = y :: putL (l.set o v) (o + 1) vs; rw [List.set_cons_succ, ih]
  subst h
  rw [List.length_cons, List.cons_append, key, putL_app (a := a) a.length rfl]
  rfl
theorem putL_all : ∀ {vs b c : List Value}, vs.length = b.length → putL (b ++ c) 0 vs = vs ++ c
 | [], [], c, _ => rfl
 | v :: vs, x :: b, c, h => by
  have key : ∀ (vs : List Value) (l : List Value) (o : Nat) (y : Value), putL (y :: l) (o + 1) vs = y :: putL l o vs := by
   intro vs
   induction vs with
   | nil => intro l o y; rfl
   | cons v vs ih => intro l o y; show putL ((y :: l).set (o + 1) v) (o + 1 + 1) vs = y :: putL (l.set o v) (o + 1) vs; rw [List.set_cons_succ, ih]
  show putL ((x :: b ++ c).set 0 v) (0 + 1) vs = _
  rw [List.cons_append, List.set_cons_zero, key, putL_all (by simpa using h)]
  rfl
theorem put_rf {E : List RF} {p : Nat} (hp : p < E.length) {vs : List Value} (hl : vs.length = 5) : putL (E.flatMap fileR) (0 + p * 5) vs = rowP E p vs := by
 obtain ⟨x, hx⟩ : ∃ x, E[p]? = some x := ⟨_, List.getElem?_eq_getElem hp⟩
 rw [row_same hx]
 unfold rowP
 rw [putL_app _ (by rw [len_cells fileR 5 (fun _ => rfl), List.length_take]; omega), putL_all hl]
theorem cov_row {np : Nat} {L : IdMap} {E : List RF} {p : Nat} (hp : p < E.length) {vs0 vs : List Value} (h : LR (cov1 np L) vs0 vs) (hl : vs.length = 5) : covL np L (rowP E p vs0) (putL (E.flatMap fileR) (0 + p * 5) vs) := by
 rw [put_rf hp hl]
 exact .inr ((cov_rfs _).append (h.append (cov_rfs _)))
theorem row_le {E : List RF} {p : Nat} (hp : p < E.length) : 0 + p * 5 + 5 ≤ (E.flatMap fileR).length := by rw [len_cells fileR 5 (fun _ => rfl)]; omega
theorem bools_rep (n : Nat) : (List.replicate n [Value.bool false]).flatten = (List.replicate n false).map .bool := by
 induction n with
 | zero => rfl
 | succ n ih => rw [List.replicate_succ, List.flatten_cons, ih, List.replicate_succ, List.map_cons]; rfl
theorem safe_now (l : List Cv) : (l.map some).flatMap cellS = l.flatMap cellN := by
 induction l with
 | nil => rfl
 | cons c l ih => rw [List.map_cons, List.flatMap_cons, List.flatMap_cons, ih, cellS_some]
theorem one_flat {l : List Value} (h : ∀ v ∈ l, v.oneCell' = true) : oneAll l = true := by unfold oneAll; rw [List.all_eq_true]; exact h
theorem one_now (l : List Cv) : oneAll (l.flatMap cellN) = true := one_flat fun v hv => by
 obtain ⟨c, _, h⟩ := List.mem_flatMap.1 hv
 simp only [cellN, List.mem_cons, List.not_mem_nil, or_false] at h
 rcases h with rfl | rfl | rfl <;> rfl
theorem one_safe (l : List (Option Cv)) : oneAll (l.flatMap cellS) = true := one_flat fun v hv => by
 obtain ⟨c, _, h⟩ := List.mem_flatMap.1 hv
 simp only [cellS, List.mem_cons, List.not_mem_nil, or_false] at h
 rcases h with rfl | rfl | rfl <;> rfl
theorem one_bool (l : List Bool) : oneAll (l.map .bool) = true := one_flat fun v hv => by obtain ⟨b, _, rfl⟩ := List.mem_map.1 hv; rfl
section
variable {h : HP} {i : Nat} {S : Nat → Prop} {E : List RF} (e : lkH h i = some (fzI S E)) {x : RF} (hx : ∀ w, FzP S E w → FzOk S w x)
include e hx
theorem src_now0 : RigSrc h 3 (rs x.a x.X.now.length x.ka) x.X.now.length (x.X.now.flatMap cellN) := by
 have := src_now e hx (Nat.le_refl _)
 rwa [List.take_length] at this
theorem src_safe0 : RigSrc h 3 (rs x.b x.X.safe.length x.kb) x.X.safe.length (x.X.safe.flatMap cellS) := by
 have := src_safe e hx (Nat.le_refl _)
 rwa [List.take_length] at this
theorem src_wait0 : RigSrc h 1 (rs x.c x.X.wait.length x.kc) x.X.wait.length (x.X.wait.map .bool) := by
 have := src_wait e hx (Nat.le_refl _)
 rwa [List.take_length] at this
end
structure SyR where
 k : Dk
 q : RK
 p : Nat
 x : RF
 kb : Nat
 kc : Nat
abbrev syV (z : SyR) : List Value := [.string z.x.nm, rs z.x.a z.x.X.now.length z.x.ka, mslice 32 z.x.X.now.length z.kb, mslice 33 z.x.X.now.length z.kc, .bool true]
abbrev syH (E : List RF) (c : Nat) (S : Nat → Prop) : LsR ⊕ SyR → HP
 | .inl z => lsH E S z
 | .inr z => [(0, .own 63 (rdv 31 E.length c z.k z.q)), (31, .lst 76 5 c (rowP E z.p (syV z))), (2, fzI S E), (32, .lst 78 3 z.kb (z.x.X.now.flatMap cellN)), (33, .lst 4 1 z.kc ((List.replicate z.x.X.now.length false).map .bool))]
abbrev syE : LsR ⊕ SyR → Int
 | .inl z => z.e
 | .inr _ => 0
def SyOk (k : Dk) (E : List RF) (c : Nat) (s : ByteArray) : LsR ⊕ SyR → Prop
 | .inl z => ((z.e, ⟨z.k, filesR z.E⟩) = syncD ⟨k, filesR E⟩ s ∧ z.e ≠ 0) ∧ z.q.Ok z.k ∧ z.E = E ∧ z.c = c
 | .inr z => (0, z.k) = begS k s true ∧ z.q.Ok z.k ∧ E[z.p]? = some z.x ∧ z.x.nm = s ∧ z.x.X.now.length ≤ z.kb ∧ z.x.X.now.length ≤ z.kc
theorem sync_1 {k k' : Dk} {E : List RF} {s : ByteArray} {e : Int} (h : (e, k') = begS k s true) (he : ¬ e = 0) : (e, (⟨k', filesR E⟩ : DM)) = syncD ⟨k, filesR E⟩ s := by
 unfold syncD foundD
 dsimp only
 rw [← h]
 dsimp only
 rw [if_pos he, if_pos he]
theorem sync_2 {k k' : Dk} {E : List RF} {s : ByteArray} {e : Int} (h : (e, k') = begS k s true) (he : e = 0) (hn : findF (filesR E) s = none) : (14, (⟨k', filesR E⟩ : DM)) = syncD ⟨k, filesR E⟩ s := by
 unfold syncD foundD
 dsimp only
 rw [← h, hn]
 subst he
 rfl
theorem cvRefWrite7 {p : Prop} (h : p := by have nw := True.intro; (repeat' (first | exact True.intro | (with_reducible exact rfl) | (with_reducible exact AbsLe.refl) | (guard_target =~ @Eq Nat _ _; first | exact rfl | omega) | (guard_target =~ List.map _ _ = []; exact rfl) | (first | (guard_target =~ @Eq Nat _ _; (try dsimp only); omega) | (guard_target =~ covL _ _ (rowP _ _ _) _; refine cov_row hpl ?_ rfl; (try clear nw) <;> have nw := True.intro) | exact covL_of (by rw [List.nil_append]) (fun v hv => cells_flat hv) | exact covL_of (bools_rep _) (fun v hv => bools_flat hv) | exact covL_still rfl (files_still _) | exact congrArg (Value.int _) (by (try dsimp only); omega) | (guard_target =~ @Eq Value _ _; exact rfl)) | (exact congrArg (Value.int _) (by omega)) | (exact covL_flat (flat_map (fun _ => rfl) _)) | (exact covL_flat flat_nil) | (refine covP_all ?_; (try clear nw); have nw := True.intro) | (refine covL_each ?_; (try clear nw); have nw := True.intro) | (refine ⟨?_, ?_⟩ <;> (try clear nw) <;> have nw := True.intro) | (guard_hyp nw : True; ((conv => whnf) <;> clear nw)))); (first | done | fail)) : p := h
set_option maxRecDepth 100000 in
theorem rsync_o (E : List RF) (c : Nat) (k : Dk) (q : RK) (S : Nat → Prop) (s : ByteArray) (hO : OpR k q E c) :
 CallOb Tryz.prog 48 [ptr 0, .string s] (opH 1 c k q E S) 3 (fun v hh m => ∃ z : LsR ⊕ SyR, SyOk k E c s z ∧ v = iv (syE z) ∧ hh = syH E c S z ∧ m = 60) := by
 refine call_spec tabOk mixed Tryz.call48 Tryz.func48 rfl [] (SyOk k E c s) (fun z => iv (syE z)) (fun z => syH E c S z) (fun _ => 60) ?_ ?_
 · exact (Nat.le_of_ble_eq_true rfl)
 dsimp only [opH, rdv]
 (repeat' ((try (conv => whnf)); first | (guard_target =~ ∃ (_ : Value), ∃ (_ : HP), ∃ (_ : HP), _; refine ⟨_, _, _, rnRefWrite4, ?_⟩; (try (dsimp only [Nat.reduceAdd, bC, bL]))) | (guard_target =~ CallOb _ 68 _ _ _ _; refine call_q (rbegin_c E.length c k q s false (E.flatMap fileR) (files_still E) hO.fit hO.rk) [(0, some 0), (1, some 1)] cvRefWrite6 rfT rfT rfT (fun v h1 n1 hp => ?_); obtain ⟨⟨e1, k1, q1⟩, ⟨hb1, hq1⟩, rfl, rfl, rfl⟩ := hp; dsimp only at hb1 hq1; simp only [Bool.not_false] at hb1; (try (dsimp only [Nat.reduceAdd, bC, bL]))) | (guard_target =~ CallOb _ 32 _ _ _ _; refine call_q (rplace_c E c k1 q1 s hO.len) [(0, some 0), (1, some 1)] cvRefWrite6 rfT rfT rfT (fun v h1 n1 hp => ?_); obtain ⟨z, hz, rfl, rfl, rfl⟩ := hp; obtain ⟨zv, hzv⟩ : ∃ y : Int, y = z := ⟨z, rfl⟩; rcases hz with ⟨hzn, hz⟩ | ⟨p, x, hx, hnx, hzp⟩; all_goals (rw [← hzv]); all_goals (first | (have hno := place_none hz) | (have hxm := List.mem_of_getElem? hx; have hpl := (List.getElem?_eq_some_iff.1 hx).1; have hfd := place_some hO.fs.sorted hx hnx; have hcx := hO.cap x hxm; have hxo := hO.ok hxm; have hxl := hxo.len; have hka := hcx.a.le; have hkb := hcx.b.le; have hkc := hcx.c.le; have hxs := hxo.safe; have hxw := hxo.wait)); all_goals (try (dsimp only [Nat.reduceAdd, bC, bL]))) | (guard_target =~ CallOb _ 34 _ _ _ _; (with_reducible refine call_inline tabOk mixed Tryz.call34 Tryz.func34 ?_ [(4, [(0, true), (1, true), (2, true), (3, true), (4, true), (5, true), (6, true), (1007, false)])] ?_ ?_); exact rfl; exact Nat.le_of_ble_eq_true rfl) | (guard_hyp hx : E[p]? = some x; first | refine onS_in (v := rs x.a x.X.now.length x.ka) (by show (E.flatMap fileR)[0 + p * 5 + 1]? = _; exact cell_rf hx (by decide) rfl) ?_ | refine onS_in (v := fileR x) (by show subL (E.flatMap fileR) (0 + p * 5) 5 = _; exact flat_sub (fun _ => rfl) hx omT) ?_) | (guard_target =~ ∃ (k : Nat), (k : Int) = zv ∧ _; refine ⟨p, by omega, ?_⟩) | (guard_target =~ ∃ _, RigSrc _ _ _ _ _ ∧ _; first | refine ⟨_, src_now0 (i := 2) (S := S) (E := E) rfl (fz_mem hxm), ?_⟩ | refine ⟨_, src_safe0 (i := 2) (S := S) (E := E) rfl (fz_mem hxm), ?_⟩ | refine ⟨_, src_wait0 (i := 2) (S := S) (E := E) rfl (fz_mem hxm), ?_⟩) | (refine chk_in (one_now _) ?_) | (refine chk_in (one_safe _) ?_) | (refine chk_in (one_bool _) ?_) | (guard_target =~ ∃ (_ : Nat), ∃ (_ : Nat), _; refine ⟨x.X.now.length, x.X.now.length, rfl, rfl, Nat.le_refl _, by omega, by omega, ?_⟩) | (refine chk_in (Nat.ble_eq_true_of_le (row_le hpl)) ?_) | (with_reducible first | refine chk_in (Nat.ble_eq_true_of_le omT) ?_ | (refine ifB_in ?_ ?_ <;> intro hb <;> (try simp only [bN1, bN2, bN3, bN4, bN5, bN6, bN7, bN8, bN9, bN0] at hb) <;> (try (exfalso; omega))) | refine ⟨_, w64b _, ?_⟩ | refine ⟨_, w64 omT omT, ?_⟩ | refine ⟨_, wu64 omT omT, ?_⟩ | refine ⟨_, wu8 omT omT, ?_⟩ | refine ⟨_, w64 szT szT, ?_⟩ | refine ⟨_, rfl, ?_⟩ | refine ⟨rfl, ?_⟩) | intro cap | (with_reducible refine ⟨trivial, ?_⟩) | (guard_target =~ (planChk _ _ = true) ∧ _; refine ⟨by kernel_rfl, ?_⟩) | (guard_target =~ (_ ∧ _) ∧ _; refine ⟨by ((repeat (first | exact trivial | refine ⟨rfl, ?_⟩)); (first | done | fail)), ?_⟩) | refine ⟨by omega, ?_⟩ | refine ⟨szT, ?_⟩ | refine ⟨0, rfl, ?_⟩ | refine ⟨1, rfl, ?_⟩ | refine ⟨2, rfl, ?_⟩ | refine ⟨3, rfl, ?_⟩ | refine ⟨4, rfl, ?_⟩ | refine ⟨5, rfl, ?_⟩ | (refine cell_at1 (by assumption) ?_) | (refine cell_in1 omT (fun x hx => ?_)) | fail)) <;> (try (conv => whnf))
 all_goals first
  | (guard_hyp hb : ¬ e1 = 0; (refine Ends.go ((.inl ⟨e1, k1, q1, E, c⟩ : LsR ⊕ SyR)) ?_ [(31, some 1)] (Fit.q cvRefWrite7 (by rfl) (by rfl))); exact ⟨⟨sync_1 hb1 hb, hb⟩, hq1, rfl, rfl⟩)
  | (guard_hyp hno : findF (filesR E) s = none; first | (exfalso; omega) | ((refine Ends.go ((.inl ⟨14, k1, q1, E, c⟩ : LsR ⊕ SyR)) ?_ [(31, some 1)] (Fit.q cvRefWrite7 (by rfl) (by rfl))); exact ⟨⟨sync_2 hb1 ‹e1 = 0› hno, (by dsimp only; omega)⟩, hq1, rfl, rfl⟩))
  | (rename_i cn; (refine Ends.go ((.inr ⟨k1, q1, p, x, cn, x.X.now.length⟩ : LsR ⊕ SyR)) ?_ [(31, some 1), (32, some 9), (33, some 10)] (Fit.q cvRefWrite7 (by rfl) (by rfl))); exact ⟨by rw [← hb1, ‹e1 = 0›], hq1, hx, hnx, by dsimp only; omega, Nat.le_refl _⟩)
  | trace_state
structure CuR where
 k : Dk
 q : RK
 p : Nat
 x : RF
 n : Nat
 ka : Nat
 kb : Nat
 kc : Nat
abbrev cuV (z : CuR) : List Value := [.string z.x.nm, mslice 32 z.n z.ka, mslice 33 z.n z.kb, mslice 34 z.n z.kc, .bool true]
abbrev cuH (E : List RF) (c : Nat) (S : Nat → Prop) : LsR ⊕ CuR → HP
 | .inl z => lsH E S z
 | .inr z => [(0, .own 63 (rdv 31 E.length c z.k z.q)), (31, .lst 76 5 c (rowP E z.p (cuV z))), (2, fzI S E), (32, .lst 78 3 z.ka ((z.x.X.now.take z.n).flatMap cellN)), (33, .lst 78 3 z.kb ((z.x.X.safe.take z.n).flatMap cellS)), (34, .lst 4 1 z.kc ((z.x.X.wait.take z.n).map .bool))]
abbrev cuE : LsR ⊕ CuR → Int
 | .inl z => z.e
 | .inr _ => 0
def CuOk (k : Dk) (E : List RF) (c : Nat) (s : ByteArray) (n : Int) : LsR ⊕ CuR → Prop
 | .inl z => ((z.e, ⟨z.k, filesR z.E⟩) = cutD ⟨k, filesR E⟩ s n ∧ z.e ≠ 0) ∧ z.q.Ok z.k ∧ z.E = E ∧ z.c = c
 | .inr z => (0, z.k) = begS k s (decide (0 ≤ n)) ∧ z.q.Ok z.k ∧ E[z.p]? = some z.x ∧ z.x.nm = s ∧ ((z.n : Nat) : Int) = n ∧ z.n ≤ z.x.X.now.length ∧ z.n ≤ z.ka ∧ z.n ≤ z.kb ∧ z.n ≤ z.kc
theorem not_neg (n : Int) : (!decide (n < 0)) = decide (0 ≤ n) := by
 by_cases h : n < 0
 · rw [decide_eq_true h, decide_eq_false (by omega)]; rfl
 · rw [decide_eq_false h, decide_eq_true (by omega)]; rfl
theorem cut_1 {k k' : Dk} {E : List RF} {s : ByteArray} {n e : Int} (h : (e, k') = begS k s (decide (0 ≤ n))) (he : ¬ e = 0) : (e, (⟨k', filesR E⟩ : DM)) = cutD ⟨k, filesR E⟩ s n := by
 unfold cutD foundD
 dsimp only
 rw [← h]
 dsimp only
 rw [if_pos he, if_pos he]
theorem cut_2 {k k' : Dk} {E : List RF} {s : ByteArray} {n e : Int} (h : (e, k') = begS k s (decide (0 ≤ n))) (he : e = 0) (hn : findF (filesR E) s = none) : (14, (⟨k', filesR E⟩ : DM)) = cutD ⟨k, filesR E⟩ s n := by
 unfold cutD foundD
 dsimp only
 rw [← h, hn]
 subst he
 rfl
theorem cut_3 {k k' : Dk} {E : List RF} {s : ByteArray} {n e : Int} {X : Fl} (h : (e, k') = begS k s (decide (0 ≤ n))) (he : e = 0) (hn : findF (filesR E) s = some X) (hl : (X.now.length : Int) < n) : (14, (⟨k', filesR E⟩ : DM)) = cutD ⟨k, filesR E⟩ s n := by
 unfold cutD foundD
 dsimp only
 rw [← h, hn]
 subst he
 dsimp only [Option.getD_some]
 rw [if_neg (by simp), if_pos hl]
theorem beg_yes {k k' : Dk} {s : ByteArray} {e : Int} {r : Bool} (h : (e, k') = begS k s r) (he : e = 0) : goodName s = true ∧ r = true := begS_good (k := k) (by rw [← h]; dsimp only; omega)
theorem cvRefWrite8 {p : Prop} (h : p := by have nw := True.intro; (repeat' (first | exact True.intro | (with_reducible exact rfl) | (with_reducible exact AbsLe.refl) | (guard_target =~ @Eq Nat _ _; first | exact rfl | omega) | (guard_target =~ List.map _ _ = []; exact rfl) | (first | (guard_target =~ @Eq Nat _ _; (try dsimp only); omega) | (guard_target =~ covL _ _ (rowP _ _ _) _; refine cov_row hpl ?_ rfl; (try clear nw) <;> have nw := True.intro) | exact covL_of (by rw [List.nil_append]) (fun v hv => cells_flat hv) | exact covL_of (by rw [List.nil_append]) (fun v hv => safes_flat hv) | exact covL_of (by rw [List.nil_append]) (fun v hv => bools_flat hv) | exact covL_still rfl (files_still _) | exact congrArg (Value.int _) (by (try dsimp only); omega) | (guard_target =~ @Eq Value _ _; exact rfl)) | (exact congrArg (Value.int _) (by omega)) | (exact covL_flat (flat_map (fun _ => rfl) _)) | (exact covL_flat flat_nil) | (refine covP_all ?_; (try clear nw); have nw := True.intro) | (refine covL_each ?_; (try clear nw); have nw := True.intro) | (refine ⟨?_, ?_⟩ <;> (try clear nw) <;> have nw := True.intro) | (guard_hyp nw : True; ((conv => whnf) <;> clear nw)))); (first | done | fail)) : p := h
set_option maxRecDepth 100000 in
set_option maxHeartbeats 2000000 in
theorem rcut_o (E : List RF) (c : Nat) (k : Dk) (q : RK) (S : Nat → Prop) (s : ByteArray) (n : Int) (hO : OpR k q E c) :
 CallOb Tryz.prog 47 [ptr 0, .string s, iv n] (opH 1 c k q E S) 3 (fun v hh m => ∃ z : LsR ⊕ CuR, CuOk k E c s n z ∧ v = iv (cuE z) ∧ hh = cuH E c S z ∧ m = 60) := by
 refine call_spec tabOk mixed Tryz.call47 Tryz.func47 rfl [(12, [(0, true), (1, true), (2, true), (3, true), (4, true), (5, true), (6, true), (1007, false)])] (CuOk k E c s n) (fun z => iv (cuE z)) (fun z => cuH E c S z) (fun _ => 60) ?_ ?_
 · exact (Nat.le_of_ble_eq_true rfl)
 dsimp only [opH, rdv]
 (repeat' ((try (conv => whnf)); first | (guard_target =~ ∃ (_ : Value), ∃ (_ : HP), ∃ (_ : HP), _; refine ⟨_, _, _, rnRefWrite4, ?_⟩; (try (dsimp only [Nat.reduceAdd, bC, bL]))) | (guard_target =~ CallOb _ 68 _ _ _ _; refine call_q (rbegin_c E.length c k q s (decide (n < 0)) (E.flatMap fileR) (files_still E) hO.fit hO.rk) [(0, some 0), (1, some 1)] cvRefWrite7 rfT rfT rfT (fun v h1 n1 hp => ?_); obtain ⟨⟨e1, k1, q1⟩, ⟨hb1, hq1⟩, rfl, rfl, rfl⟩ := hp; dsimp only at hb1 hq1; rw [not_neg] at hb1; (try (dsimp only [Nat.reduceAdd, bC, bL]))) | (guard_target =~ CallOb _ 32 _ _ _ _; refine call_q (rplace_c E c k1 q1 s hO.len) [(0, some 0), (1, some 1)] cvRefWrite6 rfT rfT rfT (fun v h1 n1 hp => ?_); obtain ⟨z, hz, rfl, rfl, rfl⟩ := hp; obtain ⟨zv, hzv⟩ : ∃ y : Int, y = z := ⟨z, rfl⟩; rcases hz with ⟨hzn, hz⟩ | ⟨p, x, hx, hnx, hzp⟩; all_goals (rw [← hzv]); all_goals (first | (have hno := place_none hz) | (have hxm := List.mem_of_getElem? hx; have hpl := (List.getElem?_eq_some_iff.1 hx).1; have hfd := place_some hO.fs.sorted hx hnx; have hcx := hO.cap x hxm; have hxo := hO.ok hxm; have hxl := hxo.len; have hka := hcx.a.le; have hkb := hcx.b.le; have hkc := hcx.c.le; have hxs := hxo.safe; have hxw := hxo.wait)); all_goals (try (dsimp only [Nat.reduceAdd, bC, bL]))) | (guard_hyp hx : E[p]? = some x; first | refine onS_in (v := rs x.a x.X.now.length x.ka) (by show (E.flatMap fileR)[0 + p * 5 + 1]? = _; exact cell_rf hx (by decide) rfl) ?_ | refine onS_in (v := fileR x) (by show subL (E.flatMap fileR) (0 + p * 5) 5 = _; exact flat_sub (fun _ => rfl) hx omT) ?_) | (guard_target =~ ∃ (k : Nat), (k : Int) = zv ∧ _; refine ⟨p, by omega, ?_⟩) | (guard_target =~ ∃ (k : Nat), (k : Int) = n ∧ _; guard_hyp hnl : nn ≤ _; refine ⟨nn, hnn, ?_⟩) | (guard_target =~ ∃ (k : Nat), (k : Int) = n ∧ _; have hn0 := of_decide_eq_true (beg_yes hb1 ‹e1 = 0›).2; obtain ⟨nn, hnn⟩ : ∃ nn : Nat, (nn : Int) = n := ⟨n.toNat, by omega⟩; have hnl : nn ≤ x.X.now.length := omT; refine ⟨nn, hnn, ?_⟩) | (refine ⟨(by omega : nn ≤ x.ka), plc_no hcx.a, ?_⟩) | (refine ⟨(by omega : nn ≤ x.kb), plc_no hcx.b, ?_⟩) | (refine ⟨(by omega : nn ≤ x.kc), plc_no hcx.c, ?_⟩) | (guard_target =~ ∃ _, RigSrc _ _ _ _ _ ∧ _; first | refine ⟨_, src_now (i := 2) (S := S) (E := E) rfl (fz_mem hxm) (n := nn) omT, ?_⟩ | refine ⟨_, src_safe (i := 2) (S := S) (E := E) rfl (fz_mem hxm) (n := nn) omT, ?_⟩ | refine ⟨_, src_wait (i := 2) (S := S) (E := E) rfl (fz_mem hxm) (n := nn) omT, ?_⟩) | (refine chk_in (one_now _) ?_) | (refine chk_in (one_safe _) ?_) | (refine chk_in (one_bool _) ?_) | (refine chk_in (Nat.ble_eq_true_of_le (row_le hpl)) ?_) | (with_reducible first | refine chk_in (Nat.ble_eq_true_of_le omT) ?_ | (refine ifB_in ?_ ?_ <;> intro hb <;> (try simp only [bN1, bN2, bN3, bN4, bN5, bN6, bN7, bN8, bN9, bN0] at hb) <;> (try (exfalso; omega))) | refine ⟨_, w64b _, ?_⟩ | refine ⟨_, w64 omT omT, ?_⟩ | refine ⟨_, wu64 omT omT, ?_⟩ | refine ⟨_, wu8 omT omT, ?_⟩ | refine ⟨_, w64 szT szT, ?_⟩ | refine ⟨_, rfl, ?_⟩ | refine ⟨rfl, ?_⟩) | intro cap | (with_reducible refine ⟨trivial, ?_⟩) | (guard_target =~ (planChk _ _ = true) ∧ _; refine ⟨by kernel_rfl, ?_⟩) | (guard_target =~ (_ ∧ _) ∧ _; refine ⟨by ((repeat (first | exact trivial | refine ⟨rfl, ?_⟩)); (first | done | fail)), ?_⟩) | refine ⟨by omega, ?_⟩ | refine ⟨szT, ?_⟩ | refine ⟨0, rfl, ?_⟩ | refine ⟨1, rfl, ?_⟩ | refine ⟨2, rfl, ?_⟩ | refine ⟨3, rfl, ?_⟩ | refine ⟨4, rfl, ?_⟩ | refine ⟨5, rfl, ?_⟩ | (refine cell_at1 (by assumption) ?_) | (refine cell_in1 omT (fun x hx => ?_)) | fail)) <;> (try (conv => whnf))
 all_goals first
  | (guard_hyp hb : ¬ e1 = 0; (refine Ends.go ((.inl ⟨e1, k1, q1, E, c⟩ : LsR ⊕ CuR)) ?_ [(31, some 1)] (Fit.q cvRefWrite8 (by rfl) (by rfl))); exact ⟨⟨cut_1 hb1 hb, hb⟩, hq1, rfl, rfl⟩)
  | (guard_hyp hno : findF (filesR E) s = none; first | (exfalso; omega) | ((refine Ends.go ((.inl ⟨14, k1, q1, E, c⟩ : LsR ⊕ CuR)) ?_ [(31, some 1)] (Fit.q cvRefWrite8 (by rfl) (by rfl))); exact ⟨⟨cut_2 hb1 ‹e1 = 0› hno, (by dsimp only; omega)⟩, hq1, rfl, rfl⟩))
  | (guard_hyp hb : _ < n; (refine Ends.go ((.inl ⟨14, k1, q1, E, c⟩ : LsR ⊕ CuR)) ?_ [(31, some 1)] (Fit.q cvRefWrite8 (by rfl) (by rfl))); exact ⟨⟨cut_3 hb1 ‹e1 = 0› hfd hb, (by dsimp only; omega)⟩, hq1, rfl, rfl⟩)
  | (rename_i a1 g1 b1 g2 c1; (refine Ends.go ((.inr ⟨k1, q1, p, x, nn, a1, b1, c1⟩ : LsR ⊕ CuR)) ?_ [(31, some 1), (32, some 9), (33, some 11), (34, some 13)] (Fit.q cvRefWrite8 (by rfl) (by rfl))); exact ⟨by rw [← hb1, ‹e1 = 0›], hq1, hx, hnx, hnn, hnl, by dsimp only; omega, by dsimp only; omega, by dsimp only; omega⟩)
  | trace_state
end Go.Proofs.YtelolcagncgfpaaGreat
namespace Go.Proofs.YtelolcagncgfpaaGreat
open Go.RowKit
set_option linter.unusedSimpArgs false
set_option linter.unusedVariables false
theorem newR_fz (S : Nat → Prop) (w : World) (s : ByteArray) : FzOk S w (newR s) := ⟨.inl ⟨rfl, rfl, rfl⟩, .inl ⟨rfl, rfl, rfl⟩, .inl ⟨rfl, rfl, rfl⟩⟩
theorem newR_cap (s : ByteArray) : (newR s).Cap := ⟨⟨Nat.le_refl _, .inl ⟨rfl, rfl⟩⟩, ⟨Nat.le_refl _, .inl ⟨rfl, rfl⟩⟩, ⟨Nat.le_refl _, .inl ⟨rfl, rfl⟩⟩⟩
theorem put_ins {s : ByteArray} {x : Fl} : ∀ {a b : Fs}, (∀ p ∈ a, strLt p.1 s = true) → (∀ p, b.head? = some p → strLt s p.1 = true) → putF (a ++ b) s x = a ++ (s, x) :: b
 | [], [], _, _ => rfl
 | [], (t, y) :: b, _, h => put_cons_lt (h (t, y) rfl)
 | (t, y) :: a, b, h1, h2 => by
  rw [List.cons_append, put_cons_gt (h1 (t, y) (by simp)), put_ins (fun p hp => h1 p (by simp [hp])) h2]
  rfl
structure MadeF (E : List RF) (s : ByteArray) (p : Nat) (E2 : List RF) (x : RF) : Prop where
 at1 : E2[p]? = some x
 nm : x.nm = s
 X : x.X = (findF (filesR E) s).getD fl0
 fz : ∀ (S : Nat → Prop) w, FzP S E w → FzP S E2 w
 cap : ∀ e ∈ E2, e.Cap
 put : ∀ y : RF, y.nm = s → filesR (E2.set p y) = putF (filesR E) s y.X
 len : E2.length = if (findF (filesR E) s).isSome then E.length else E.length + 1
theorem made_facts {E : List RF} {s : ByteArray} {p : Nat} {E2 : List RF} (hs : Sorted (filesR E)) (hc : ∀ e ∈ E, e.Cap) (h : MadeR E s (p, E2)) : ∃ x, MadeF E s p E2 x := by
 rcases h with ⟨h1, x, hx, hn⟩ | ⟨hz, hp, h1, h2, h3⟩
 · dsimp only at h1 hx
   subst h1
   have hf := place_some hs hx hn
   have hpl := (List.getElem?_eq_some_iff.1 hx).1
   refine ⟨x, hx, hn, by rw [hf]; rfl, fun S w h => h, hc, fun y hy => ?_, by rw [hf]; rfl⟩
   have e1 := files_split hx
   rw [e1, hn] at hs
   rw [e1, hn, put_mid hs, files_split (E := E2.set p y) (p := p) (x := y) (List.getElem?_set_self hpl), List.take_set_of_le (Nat.le_refl _), List.drop_set_of_lt (by omega), hy]
 · dsimp only at hp h1 h2 h3
   subst h1
   have hf := place_none hz
   refine ⟨newR s, ins_at hp, rfl, by rw [hf]; rfl, fun S w h e he => ?_, fun e he => ?_, fun y hy => ?_, by rw [hf, ins_len hp]; rfl⟩
   · unfold insP at he
     rcases List.mem_append.1 he with he | he
     · exact h e (List.mem_of_mem_take he)
     · cases he with
       | head => exact newR_fz S w s
       | tail _ he => exact h e (List.mem_of_mem_drop he)
   · unfold insP at he
     rcases List.mem_append.1 he with he | he
     · exact hc e (List.mem_of_mem_take he)
     · cases he with
       | head => exact newR_cap s
       | tail _ he => exact hc e (List.mem_of_mem_drop he)
   · have hset : (insP E s p).set p y = E.take p ++ y :: E.drop p := by
      unfold insP
      rw [List.set_append_right _ _ (by rw [List.length_take]; omega), List.length_take, Nat.min_eq_left hp, Nat.sub_self]
      rfl
     have hsplit : filesR E = filesR (E.take p) ++ filesR (E.drop p) := by
      conv => lhs; rw [← List.take_append_drop p E]
      unfold filesR
      rw [List.map_append]
     rw [hset, hsplit, put_ins]
     · subst hy
       unfold filesR
       rw [List.map_append, List.map_cons]
     · intro q hq
       obtain ⟨e, he, rfl⟩ := List.mem_map.1 hq
       obtain ⟨j, hj⟩ := List.mem_iff_getElem?.1 he
       rw [List.getElem?_take] at hj
       split at hj
       · rename_i hjp
         have h4 := h3 j e hjp hj
         have h5 := hz e (List.mem_of_getElem? hj)
         rcases strLt_tri h5 with h6 | h6
         · exact h6
         · rw [h4] at h6; cases h6
       · cases hj
     · intro q hq
       have : (filesR (E.drop p)).head? = (E.drop p).head?.map fun e => (e.nm, e.X) := by unfold filesR; rw [List.head?_map]
       rw [this] at hq
       cases hd : (E.drop p).head? with
       | none => rw [hd] at hq; cases hq
       | some e =>
        rw [hd] at hq
        cases hq
        rw [List.head?_drop] at hd
        exact h2 e hd
structure WrR where
 k : Dk
 q : RK
 E : List RF
 c : Nat
 p : Nat
 x : RF
 ka : Nat
 kb : Nat
 kc : Nat
inductive WrX where
 | ls (z : LsR)
 | grow (z : WrR)
 | over (z : WrR)
abbrev wrH (E0 : List RF) (S : Nat → Prop) (i : Nat) (d : ByteArray) : WrX → HP
 | .ls z => lsH E0 S z
 | .grow z => [(0, .own 63 (rdv 31 z.E.length z.c z.k z.q)), (31, .lst 76 5 z.c (rowP z.E z.p [.string z.x.nm, mslice 32 (z.x.X.now.length + 1) z.ka, mslice 33 (z.x.X.safe.length + 1) z.kb, mslice 34 (z.x.X.wait.length + 1) z.kc, .bool z.x.X.sure])), (2, fzI S E0), (32, .lst 78 3 z.ka ((z.x.X.now ++ [some d]).flatMap cellN)), (33, .lst 78 3 z.kb ((z.x.X.safe ++ [none]).flatMap cellS)), (34, .lst 4 1 z.kc ((z.x.X.wait ++ [true]).map .bool))]
 | .over z => [(0, .own 63 (rdv 31 z.E.length z.c z.k z.q)), (31, .lst 76 5 z.c (rowP z.E z.p [.string z.x.nm, mslice 32 z.x.X.now.length z.ka, rs z.x.b z.x.X.safe.length z.x.kb, mslice 34 z.x.X.wait.length z.kc, .bool z.x.X.sure])), (2, fzI S E0), (32, .lst 78 3 z.ka ((z.x.X.now.set i (some d)).flatMap cellN)), (34, .lst 4 1 z.kc ((z.x.X.wait.set i true).map .bool))]
abbrev wrE : WrX → Int
 | .ls z => z.e
 | _ => 0
def WrOk (k : Dk) (E : List RF) (s : ByteArray) (i : Int) (d : ByteArray) : WrX → Prop
 | .ls z => ((z.e, ⟨z.k, filesR z.E⟩) = writeD ⟨k, filesR E⟩ s i d ∧ z.e ≠ 0) ∧ z.q.Ok z.k ∧ z.E = E ∧ z.E.length ≤ z.c
 | .grow z => (0, ⟨z.k, putF (filesR E) s (writeF z.x.X i.toNat d)⟩) = writeD ⟨k, filesR E⟩ s i d ∧ z.q.Ok z.k ∧ MadeF E s z.p z.E z.x ∧ z.E.length ≤ z.c ∧ i = (z.x.X.now.length : Nat) ∧ z.x.X.now.length + 1 ≤ z.ka ∧ z.x.X.safe.length + 1 ≤ z.kb ∧ z.x.X.wait.length + 1 ≤ z.kc
 | .over z => (0, ⟨z.k, putF (filesR E) s (writeF z.x.X i.toNat d)⟩) = writeD ⟨k, filesR E⟩ s i d ∧ z.q.Ok z.k ∧ MadeF E s z.p z.E z.x ∧ z.E.length ≤ z.c ∧ (0 ≤ i ∧ i < (z.x.X.now.length : Nat)) ∧ z.x.X.now.length ≤ z.ka ∧ z.x.X.wait.length ≤ z.kc
theorem right_t {i : Int} {d : ByteArray} (h : i < 0) : (!true) = (decide (0 ≤ i) && decide (d.size = 256)) := by rw [decide_eq_false (by omega)]; rfl
theorem right_d {i : Int} {d : ByteArray} (h : 0 ≤ i) : (!decide (((d.size : Nat) : Int) ≠ 256)) = (decide (0 ≤ i) && decide (d.size = 256)) := by
 rw [decide_eq_true h, Bool.true_and]
 by_cases hd : d.size = 256
 · rw [decide_eq_true hd, decide_eq_false (by omega)]; rfl
 · rw [decide_eq_false hd, decide_eq_true (by omega)]; rfl
theorem len_n1 {l : List Cv} : (([] : List Value) ++ l.flatMap cellN).length = (0 + l.length) * 3 := by rw [List.nil_append, len_cells cellN 3 (fun _ => rfl), Nat.zero_add]
theorem len_n2 {l : List Cv} {o : List Value} (h : o.length = 3) : ((([] : List Value) ++ l.flatMap cellN) ++ o).length = (0 + l.length + 1) * 3 := by rw [List.length_append, len_n1, h]; omega
theorem len_s1 {l : List (Option Cv)} : (([] : List Value) ++ l.flatMap cellS).length = (0 + l.length) * 3 := by rw [List.nil_append, len_cells cellS 3 (fun _ => rfl), Nat.zero_add]
theorem len_w1 {l : List Bool} : (([] : List Value) ++ l.map Value.bool).length = (0 + l.length) * 1 := by rw [List.nil_append, List.length_map, Nat.zero_add, Nat.mul_one]
theorem len_w2 {l : List Bool} {o : List Value} (h : o.length = 1) : ((([] : List Value) ++ l.map Value.bool) ++ o).length = (0 + l.length + 1) * 1 := by rw [List.length_append, len_w1, h]; omega
theorem filesR_len {E : List RF} : (filesR E).length = E.length := List.length_map _
theorem st_n1 {l : List Cv} {j : Nat} (h : j < l.length) : 0 + j * 3 + 3 ≤ (([] : List Value) ++ l.flatMap cellN).length := by rw [len_n1]; omega
theorem st_n2 {l : List Cv} {j : Nat} {o : List Value} (h : j ≤ l.length) (ho : o.length = 3) : 0 + j * 3 + 3 ≤ (([] : List Value) ++ ((([] : List Value) ++ l.flatMap cellN) ++ o)).length := by rw [List.nil_append, len_n2 ho]; omega
theorem st_w1 {l : List Bool} {j : Nat} (h : j < l.length) : Nat.blt (0 + j * 1) (([] : List Value) ++ l.map Value.bool).length = true := Nat.ble_eq_true_of_le (by rw [len_w1]; omega)
theorem st_w2 {l : List Bool} {j : Nat} {o : List Value} (h : j ≤ l.length) (ho : o.length = 1) : Nat.blt (0 + j * 1) (([] : List Value) ++ ((([] : List Value) ++ l.map Value.bool) ++ o)).length = true := Nat.ble_eq_true_of_le (by rw [List.nil_append, len_w2 ho]; omega)
section
variable {k k' : Dk} {E : List RF} {s d : ByteArray} {i e : Int}
theorem write_1 (h : (e, k') = begS k s (decide (0 ≤ i) && decide (d.size = 256))) (he : ¬ e = 0) : (e, (⟨k', filesR E⟩ : DM)) = writeD ⟨k, filesR E⟩ s i d := by
 have h14 := begS_not14 k s (decide (0 ≤ i) && decide (d.size = 256))
 rw [← h] at h14
 unfold writeD foundD
 dsimp only
 rw [← h]
 dsimp only at h14 ⊢
 rw [if_pos he, if_pos ⟨he, .inl h14⟩]
theorem write_eq (h : (e, k') = begS k s (decide (0 ≤ i) && decide (d.size = 256))) (he : e = 0) :
 writeD ⟨k, filesR E⟩ s i d = if (((findF (filesR E) s).getD fl0).now.length : Int) < i then (14, ⟨k', filesR E⟩)
  else if (findF (filesR E) s = none ∧ 8 ≤ (filesR E).length) ∨ (i = (((findF (filesR E) s).getD fl0).now.length : Nat) ∧ k'.room ≤ total (filesR E)) then (12, ⟨k', filesR E⟩)
  else (0, ⟨k', putF (filesR E) s (writeF ((findF (filesR E) s).getD fl0) i.toNat d)⟩) := by
 unfold writeD foundD
 dsimp only
 rw [← h]
 subst he
 dsimp only
 rw [if_neg (show ¬ ((0 : Int) ≠ 0) by simp)]
 cases hf : findF (filesR E) s with
 | none =>
  dsimp only [Option.isSome_none, Option.getD_none]
  simp only [Bool.false_eq_true, if_false, true_and]
  by_cases hi : ((fl0.now.length : Nat) : Int) < i
  · rw [if_pos ⟨by decide, .inr (by have : fl0.now.length = 0 := rfl; omega)⟩, if_pos hi]
  · rw [if_neg (fun x => x.2.elim (fun y => y rfl) (fun y => hi (by have : fl0.now.length = 0 := rfl; omega))), if_neg hi]
 | some X =>
  dsimp only [Option.isSome_some, Option.getD_some]
  simp only [if_true, ne_eq, not_true, false_and, if_false]
  by_cases hi : ((X.now.length : Nat) : Int) < i
  · rw [if_pos hi, if_pos hi]
  · rw [if_neg hi, if_neg hi]
    by_cases hc : i = (X.now.length : Nat) ∧ k'.room ≤ total (filesR E)
    · rw [if_pos (.inr hc), if_pos (.inr hc)]
    · rw [if_neg (fun x => x.elim (fun y => by simp at y) hc), if_neg (fun x => x.elim (fun y => by simp at y) hc)]
theorem write_14 {X : Fl} (h : (e, k') = begS k s (decide (0 ≤ i) && decide (d.size = 256))) (he : e = 0) (hX : (findF (filesR E) s).getD fl0 = X) (hl : (X.now.length : Int) < i) : (14, (⟨k', filesR E⟩ : DM)) = writeD ⟨k, filesR E⟩ s i d := by
 rw [write_eq h he, hX, if_pos hl]
theorem write_12 {X : Fl} (h : (e, k') = begS k s (decide (0 ≤ i) && decide (d.size = 256))) (he : e = 0) (hX : (findF (filesR E) s).getD fl0 = X) (hl : ¬ (X.now.length : Int) < i) (hc : (findF (filesR E) s = none ∧ 8 ≤ (filesR E).length) ∨ (i = (X.now.length : Nat) ∧ k'.room ≤ total (filesR E))) : (12, (⟨k', filesR E⟩ : DM)) = writeD ⟨k, filesR E⟩ s i d := by
 rw [write_eq h he, hX, if_neg hl, if_pos hc]
theorem write_0 {X : Fl} (h : (e, k') = begS k s (decide (0 ≤ i) && decide (d.size = 256))) (he : e = 0) (hX : (findF (filesR E) s).getD fl0 = X) (hl : ¬ (X.now.length : Int) < i) (hc : ¬ ((findF (filesR E) s = none ∧ 8 ≤ (filesR E).length) ∨ (i = (X.now.length : Nat) ∧ k'.room ≤ total (filesR E)))) : (0, (⟨k', putF (filesR E) s (writeF X i.toNat d)⟩ : DM)) = writeD ⟨k, filesR E⟩ s i d := by
 rw [write_eq h he, hX, if_neg hl, if_neg hc]
end
theorem put_cells {α : Type} (f : α → List Value) (z : Nat) (hf : ∀ a, (f a).length = z) : ∀ (l : List α) (j : Nat) (a : α), j < l.length → putL (l.flatMap f) (j * z) (f a) = (l.set j a).flatMap f
 | x :: l, 0, a, _ => by
  rw [Nat.zero_mul, List.flatMap_cons, putL_all (by rw [hf, hf]), List.set_cons_zero, List.flatMap_cons]
 | x :: l, j + 1, a, h => by
  rw [List.flatMap_cons, List.set_cons_succ, List.flatMap_cons, ← put_cells f z hf l j a (by simpa using h)]
  have key : ∀ (b c vs : List Value) (o : Nat), putL (b ++ c) (b.length + o) vs = b ++ putL c o vs := by
   intro b
   induction b with
   | nil => intro c vs o; rw [List.length_nil, Nat.zero_add]; rfl
   | cons y b ih =>
    intro c vs
    induction vs generalizing c with
    | nil => intro o; rfl
    | cons v vs ih2 =>
     intro o
     show putL ((y :: b ++ c).set ((y :: b).length + o) v) ((y :: b).length + o + 1) vs = _
     rw [List.set_append_right _ _ (by omega), show (y :: b).length + o - (y :: b).length = o by omega, Nat.add_assoc, ih2]
     rfl
  rw [show (j + 1) * z = (f x).length + j * z by rw [hf, Nat.add_mul, Nat.one_mul]; omega, key]
theorem put_grow {α : Type} (f : α → List Value) (z : Nat) (hf : ∀ a, (f a).length = z) (l : List α) (a : α) (old : List Value) (ho : old.length = z) : putL (l.flatMap f ++ old) (l.length * z) (f a) = (l ++ [a]).flatMap f := by
 rw [putL_app _ (by rw [len_cells f z hf])]
 have := putL_all (vs := f a) (b := old) (c := []) (by rw [hf, ho])
 rw [List.append_nil, List.append_nil] at this
 rw [this, List.flatMap_append, List.flatMap_cons, List.flatMap_nil, List.append_nil]
theorem now_grow {l : List Cv} {d : ByteArray} {j : Nat} (hj : j = l.length) : putL ([] ++ (([] ++ l.flatMap cellN) ++ [.bool false, .string ⟨#[]⟩, .bool false])) (0 + j * 3) [.bool true, .string d, .bool false] = (l ++ [some d]).flatMap cellN := by
 subst hj
 rw [List.nil_append, List.nil_append, Nat.zero_add]
 exact put_grow cellN 3 (fun _ => rfl) l (some d) _ rfl
theorem now_over {l : List Cv} {d : ByteArray} {j : Nat} (hj : j < l.length) : putL ([] ++ l.flatMap cellN) (0 + j * 3) [.bool true, .string d, .bool false] = (l.set j (some d)).flatMap cellN := by
 rw [List.nil_append, Nat.zero_add]
 exact put_cells cellN 3 (fun _ => rfl) l j (some d) hj
theorem safe_grow {l : List (Option Cv)} : ([] ++ l.flatMap cellS) ++ [.bool false, .string ⟨#[]⟩, .bool false] = (l ++ [none]).flatMap cellS := by
 rw [List.nil_append, List.flatMap_append, List.flatMap_cons, List.flatMap_nil, List.append_nil]
 rfl
theorem bool_one (l : List Bool) : l.map Value.bool = l.flatMap (fun b => [Value.bool b]) := by
 induction l with
 | nil => rfl
 | cons b l ih => rw [List.map_cons, ih, List.flatMap_cons]; rfl
theorem wait_grow {l : List Bool} {j : Nat} (hj : j = l.length) : putL ([] ++ (([] ++ l.map Value.bool) ++ [.bool false])) (0 + j * 1) [.bool true] = (l ++ [true]).map Value.bool := by
 subst hj
 rw [List.nil_append, List.nil_append, Nat.zero_add, bool_one, bool_one]
 exact put_grow (fun b => [Value.bool b]) 1 (fun _ => rfl) l true _ rfl
theorem wait_over {l : List Bool} {j : Nat} (hj : j < l.length) : putL ([] ++ l.map Value.bool) (0 + j * 1) [.bool true] = (l.set j true).map Value.bool := by
 rw [List.nil_append, Nat.zero_add, bool_one, bool_one]
 exact put_cells (fun b => [Value.bool b]) 1 (fun _ => rfl) l j true hj
theorem sub_all {l : List Value} {n : Nat} (h : l.length = n) : subL l 0 n = some l := subL_in (by rw [List.drop_zero, List.take_of_length_le (by omega)]) h (fun _ => Nat.zero_le _)
theorem one_app {a b : List Value} (ha : oneAll a = true) (hb : oneAll b = true) : oneAll (a ++ b) = true := by unfold oneAll at *; rw [List.all_append, ha, hb]; rfl
attribute [local irreducible] bytesOf strOf strEq strLt sfrom begS goodName readD writeD syncD cutD dropD
theorem cvRefWrite9 {p : Prop} (h : p := by have nw := True.intro; (repeat' (first | exact True.intro | (with_reducible exact rfl) | (with_reducible exact AbsLe.refl) | (guard_target =~ @Eq Nat _ _; first | exact rfl | omega) | (guard_target =~ List.map _ _ = []; exact rfl) | (first | (guard_target =~ @Eq Nat _ _; (try dsimp only); omega) | (guard_target =~ covL _ _ (rowP _ _ _) _; refine cov_row hpl ?_ rfl; (try clear nw) <;> have nw := True.intro) | exact covL_of (now_grow hil) (fun v hv => cells_flat hv) | exact covL_of (now_over hil) (fun v hv => cells_flat hv) | exact covL_of safe_grow (fun v hv => safes_flat hv) | exact covL_of (wait_grow (by omega)) (fun v hv => bools_flat hv) | exact covL_of (wait_over (by omega)) (fun v hv => bools_flat hv) | exact covL_still rfl (files_still _) | exact congrArg (Value.int _) (by (try dsimp only); omega) | (guard_target =~ @Eq Value _ _; exact rfl)) | (exact congrArg (Value.int _) (by omega)) | (exact covL_flat (flat_map (fun _ => rfl) _)) | (exact covL_flat flat_nil) | (refine covP_all ?_; (try clear nw); have nw := True.intro) | (refine covL_each ?_; (try clear nw); have nw := True.intro) | (refine ⟨?_, ?_⟩ <;> (try clear nw) <;> have nw := True.intro) | (guard_hyp nw : True; ((conv => whnf) <;> clear nw)))); (first | done | fail)) : p := h
set_option maxRecDepth 100000 in
set_option maxHeartbeats 4000000 in
theorem rwrite_o (E : List RF) (c : Nat) (k : Dk) (q : RK) (S : Nat → Prop) (s : ByteArray) (i : Int) (d : ByteArray) (hO : OpR k q E c) :
 CallOb Tryz.prog 45 [ptr 0, .string s, iv i, .string d] (opH 1 c k q E S) 3 (fun v hh m => ∃ z : WrX, WrOk k E s i d z ∧ v = iv (wrE z) ∧ hh = wrH E S i.toNat d z ∧ m = 100) := by
 refine call_spec tabOk mixed Tryz.call45 Tryz.func45 rfl [(10, [(0, true), (1, true), (2, true), (3, true), (4, true), (5, true), (6, true), (7, true), (8, true), (9, true), (10, true), (11, true), (12, true), (13, true), (14, true), (15, true), (17, true), (18, true), (19, true), (20, true), (16, false), (21, true), (22, true), (23, true)]), (23, [(0, true), (1, true), (2, true), (3, true), (4, true), (5, true), (6, true), (1007, false)])] (WrOk k E s i d) (fun z => iv (wrE z)) (fun z => wrH E S i.toNat d z) (fun _ => 100) ?_ ?_
 · exact (Nat.le_of_ble_eq_true rfl)
 dsimp only [opH, rdv]
 (repeat' ((try (conv => whnf)); first | (guard_target =~ ∃ (_ : Value), ∃ (_ : HP), ∃ (_ : HP), _; refine ⟨_, _, _, rnRefWrite4, ?_⟩; (try (dsimp only [Nat.reduceAdd, bC, bL]))) | (guard_target =~ CallOb _ 68 _ _ _ _; first | (guard_hyp hb : i < 0; refine call_q (rbegin_c E.length c k q s true (E.flatMap fileR) (files_still E) hO.fit hO.rk) [(0, some 0), (1, some 1)] cvRefWrite9 rfT rfT rfT (fun v h1 n1 hp => ?_); obtain ⟨⟨e1, k1, q1⟩, ⟨hb1, hq1⟩, rfl, rfl, rfl⟩ := hp; dsimp only at hb1 hq1; have hne : e1 ≠ 0 := fun h => absurd (beg_yes hb1 h).2 (by decide); rw [right_t (i := i) (d := d) hb] at hb1) | (refine call_q (rbegin_c E.length c k q s (decide (((d.size : Nat) : Int) ≠ 256)) (E.flatMap fileR) (files_still E) hO.fit hO.rk) [(0, some 0), (1, some 1)] cvRefWrite9 rfT rfT rfT (fun v h1 n1 hp => ?_); obtain ⟨⟨e1, k1, q1⟩, ⟨hb1, hq1⟩, rfl, rfl, rfl⟩ := hp; dsimp only at hb1 hq1; rw [right_d (i := i) (d := d) omT] at hb1); (try (dsimp only [Nat.reduceAdd, bC, bL]))) | (guard_target =~ CallOb _ 32 _ _ _ _; refine call_q (rplace_c E c k1 q1 s hO.len) [(0, some 0), (1, some 1)] cvRefWrite9 rfT rfT rfT (fun v h1 n1 hp => ?_); obtain ⟨z, hz, rfl, rfl, rfl⟩ := hp; obtain ⟨zv, hzv⟩ : ∃ y : Int, y = z := ⟨z, rfl⟩; have hlen := hO.len; rcases hz with ⟨hzn, hz⟩ | ⟨p, x, hx, hnx, hzp⟩; all_goals (rw [← hzv]); all_goals (first | (have hno := place_none hz) | (have hxm := List.mem_of_getElem? hx; have hfd := place_some hO.fs.sorted hx hnx; have hxl := (hO.ok hxm).len)); all_goals (try (dsimp only [Nat.reduceAdd, bC, bL]))) | (guard_hyp hx : E[p]? = some x; refine onS_in (v := rs x.a x.X.now.length x.ka) (by show (E.flatMap fileR)[0 + p * 5 + 1]? = _; exact cell_rf hx (by decide) rfl) ?_) | (guard_target =~ ∃ (k : Nat), (k : Int) = zv ∧ _; refine ⟨p, by omega, (List.getElem?_eq_some_iff.1 hx).1, ?_⟩) | (guard_target =~ CallOb _ 77 _ _ _ _; refine call_q (rtotal_c E c k1 q1 hO.len (fun e he => (hO.ok he).len)) [(0, some 0), (1, some 1)] cvRefWrite9 rfT rfT rfT (fun v h1 n1 hp => ?_); obtain ⟨tv, htv, rfl, rfl, rfl⟩ := hp; (try (dsimp only [Nat.reduceAdd, bC, bL]))) | (guard_target =~ CallOb _ 33 _ _ _ _; refine call_q (rmade_c E c k1 q1 s hO.len hO.le) [(0, some 0), (1, some 1)] cvRefWrite9 rfT rfT rfT (fun v h1 n1 hp => ?_); obtain ⟨⟨⟨p2, E2⟩, c2⟩, ⟨hm2, hc2⟩, rfl, rfl, rfl⟩ := hp; dsimp only at hm2 hc2; obtain ⟨y, hy⟩ := made_facts hO.fs.sorted hO.cap hm2; have hpl := (List.getElem?_eq_some_iff.1 hy.at1).1; have hym := List.mem_of_getElem? hy.at1; have hcy := hy.cap y hym; have hyo : y.X.Ok := (by rw [hy.X]; exact get_ok hO.fs s); have hyl := hyo.len; have hys := hyo.safe; have hyw := hyo.wait; have hyX := hy.X; (first | (rw [hno] at hyX; have hsz : y.X.now.length = 0 := (by rw [hyX]; rfl)) | (rw [hfd] at hyX; have hsz : y.X.now.length = x.X.now.length := (by rw [hyX]; rfl))); have hfy : ∀ w, FzP S E w → FzOk S w y := (fun w h => hy.fz S w h y hym); have mkR : 1 = 1 := rfl; (try (dsimp only [Nat.reduceAdd, bC, bL]))) | (guard_hyp mkR : 1 = 1; refine onS_in (v := fileR y) (by show subL (E2.flatMap fileR) (0 + p2 * 5) 5 = _; exact flat_sub (fun _ => rfl) hy.at1 omT) ?_; clear mkR) | (guard_target =~ ∃ (k : Nat), (k : Int) = ((p2 : Nat) : Int) ∧ _; refine ⟨p2, rfl, ?_⟩) | (guard_target =~ ∃ (k : Nat), (k : Int) = i ∧ _; refine ⟨i.toNat, by omega, ?_⟩) | (guard_target =~ ∃ _, RigSrc _ _ _ _ _ ∧ _; first | refine ⟨_, src_now0 (i := 2) (S := S) (E := E) rfl hfy, ?_⟩ | refine ⟨_, src_safe0 (i := 2) (S := S) (E := E) rfl hfy, ?_⟩ | refine ⟨_, src_wait0 (i := 2) (S := S) (E := E) rfl hfy, ?_⟩) | (refine chk_in (one_now _) ?_) | (refine chk_in (one_safe _) ?_) | (refine chk_in (one_bool _) ?_) | (refine ⟨len_n1, ?_⟩) | (refine ⟨len_s1, ?_⟩) | (refine ⟨len_w1, ?_⟩) | (refine chk_in (Nat.ble_eq_true_of_le (row_le hpl)) ?_) | (refine chk_in (Nat.ble_eq_true_of_le (st_n1 (l := y.X.now) (j := i.toNat) omT)) ?_) | (refine chk_in (Nat.ble_eq_true_of_le (st_n2 (l := y.X.now) (j := i.toNat) omT rfl)) ?_) | (refine chk_in (st_w1 (l := y.X.wait) (j := i.toNat) omT) ?_) | (refine chk_in (st_w2 (l := y.X.wait) (j := i.toNat) omT rfl) ?_) | (refine onS_in (sub_all (len_n2 (l := y.X.now) rfl)) ?_) | (refine onS_in (sub_all (len_w2 (l := y.X.wait) rfl)) ?_) | (refine chk_in (one_app (one_app rfl (one_now _)) rfl) ?_) | (refine chk_in (one_app (one_app rfl (one_bool _)) rfl) ?_) | (with_reducible first | refine chk_in (Nat.ble_eq_true_of_le omT) ?_ | (refine ifB_in ?_ ?_ <;> intro hb <;> (try simp only [bN1, bN2, bN3, bN4, bN5, bN6, bN7, bN8, bN9, bN0] at hb) <;> (try (exfalso; omega))) | refine ⟨_, w64b _, ?_⟩ | refine ⟨_, w64 omT omT, ?_⟩ | refine ⟨_, wu64 omT omT, ?_⟩ | refine ⟨_, wu8 omT omT, ?_⟩ | refine ⟨_, w64 szT szT, ?_⟩ | refine ⟨_, rfl, ?_⟩ | refine ⟨rfl, ?_⟩) | intro cap | (with_reducible refine ⟨trivial, ?_⟩) | (guard_target =~ (planChk _ _ = true) ∧ _; refine ⟨by kernel_rfl, ?_⟩) | (guard_target =~ (_ ∧ _) ∧ _; refine ⟨by ((repeat (first | exact trivial | refine ⟨rfl, ?_⟩)); (first | done | fail)), ?_⟩) | refine ⟨by omega, ?_⟩ | refine ⟨szT, ?_⟩ | refine ⟨0, rfl, ?_⟩ | refine ⟨1, rfl, ?_⟩ | refine ⟨2, rfl, ?_⟩ | refine ⟨3, rfl, ?_⟩ | refine ⟨4, rfl, ?_⟩ | refine ⟨5, rfl, ?_⟩ | (refine cell_at1 (by assumption) ?_) | (refine cell_in1 omT (fun x hx => ?_)) | fail)) <;> (try (conv => whnf))
 all_goals first
  | (guard_hyp hb : ¬ e1 = 0; (refine Ends.go ((.ls ⟨e1, k1, q1, E, c⟩ : WrX)) ?_ [(31, some 1)] (Fit.q cvRefWrite9 (by rfl) (by rfl))); exact ⟨⟨write_1 hb1 hb, hb⟩, hq1, rfl, hO.le⟩)
  | (guard_target =~ Ends _ _ _ _ _ (packV [Value.int _ 14]) _; (refine Ends.go ((.ls ⟨14, k1, q1, E, c⟩ : WrX)) ?_ [(31, some 1)] (Fit.q cvRefWrite9 (by rfl) (by rfl))); first
   | (guard_hyp hno : findF (filesR E) s = none; exact ⟨⟨write_14 hb1 ‹e1 = 0› (X := fl0) (by rw [hno]; rfl) (by have : fl0.now.length = 0 := rfl; omega), (by dsimp only; omega)⟩, hq1, rfl, hO.le⟩)
   | exact ⟨⟨write_14 hb1 ‹e1 = 0› (X := x.X) (by rw [hfd]; rfl) ‹_›, (by dsimp only; omega)⟩, hq1, rfl, hO.le⟩)
  | (guard_target =~ Ends _ _ _ _ _ (packV [Value.int _ 12]) _; have h8 : (8 : Int) ≤ ((E.length : Nat) : Int) := hb; have h8' : 8 ≤ (filesR E).length := (by rw [filesR_len]; omega); (refine Ends.go ((.ls ⟨12, k1, q1, E, c⟩ : WrX)) ?_ [(31, some 1)] (Fit.q cvRefWrite9 (by rfl) (by rfl))); exact ⟨⟨write_12 hb1 ‹e1 = 0› (X := fl0) (by rw [hno]; rfl) (by have : fl0.now.length = 0 := rfl; omega) (.inl ⟨hno, h8'⟩), (by dsimp only; omega)⟩, hq1, rfl, hO.le⟩)
  | (guard_target =~ Ends _ _ _ _ _ (packV [Value.int _ 12]) _; have hrm : k1.room ≤ ((total (filesR E) : Nat) : Int) := (by rw [← htv]; assumption); (refine Ends.go ((.ls ⟨12, k1, q1, E, c⟩ : WrX)) ?_ [(31, some 1)] (Fit.q cvRefWrite9 (by rfl) (by rfl))); first
   | (guard_hyp hno : findF (filesR E) s = none; exact ⟨⟨write_12 hb1 ‹e1 = 0› (X := fl0) (by rw [hno]; rfl) (by have : fl0.now.length = 0 := rfl; omega) (.inr ⟨by have : fl0.now.length = 0 := rfl; omega, hrm⟩), (by dsimp only; omega)⟩, hq1, rfl, hO.le⟩)
   | exact ⟨⟨write_12 hb1 ‹e1 = 0› (X := x.X) (by rw [hfd]; rfl) (by omega) (.inr ⟨by omega, hrm⟩), (by dsimp only; omega)⟩, hq1, rfl, hO.le⟩)
  | (guard_hyp hb : (_ : Int) < _; rename_i b1 g1 a1 g2 cw; have hz0 : ¬ (findF (filesR E) s = none ∧ 8 ≤ (filesR E).length) := (by rw [filesR_len]; first | (intro h; omega) | (intro h; rw [hfd] at h; cases h.1)); have hrm : ¬ k1.room ≤ ((total (filesR E) : Nat) : Int) := (by rw [← htv]; omega); have hil : i.toNat = y.X.now.length := (by omega); have hnl : ¬ ((y.X.now.length : Nat) : Int) < i := (by omega); (refine Ends.go ((.grow ⟨k1, q1, E2, c2, p2, y, a1, b1, cw⟩ : WrX)) ?_ [(31, some 40), (32, some 63), (33, some 61), (34, some 65)] (Fit.q cvRefWrite9 (by rfl) (by rfl))); exact ⟨write_0 hb1 ‹e1 = 0› hy.X.symm hnl (fun h => h.elim hz0 (fun h => hrm h.2)), hq1, hy, hc2, (by dsimp only; omega), (by dsimp only; omega), (by dsimp only; omega), (by dsimp only; omega)⟩)
  | (rename_i a1 g1 cw; have hil : i.toNat < y.X.now.length := (by omega); have hnl : ¬ ((y.X.now.length : Nat) : Int) < i := (by omega); have hne : ¬ i = ((y.X.now.length : Nat) : Int) := (by omega); (refine Ends.go ((.over ⟨k1, q1, E2, c2, p2, y, a1, 0, cw⟩ : WrX)) ?_ [(31, some 38), (32, some 49), (34, some 51)] (Fit.q cvRefWrite9 (by rfl) (by rfl))); exact ⟨write_0 hb1 ‹e1 = 0› hy.X.symm hnl (fun h => h.elim (fun h => by rw [hfd] at h; cases h.1) (fun h => hne h.1)), hq1, hy, hc2, (by dsimp only; omega), (by dsimp only; omega), (by dsimp only; omega)⟩)
  | trace_state
end Go.Proofs.YtelolcagncgfpaaGreat
