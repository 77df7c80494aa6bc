/- The document's disk: calls told of the disk as a whole. -/
import Derived.Test.YtelolcagncgfpaaGreatRefWrite
namespace Go.Proofs.YtelolcagncgfpaaGreat
open Go.RowKit
set_option linter.unusedSimpArgs false
set_option linter.unusedVariables false
section
variable {F : Nat → Prop} {B : Nat} {w0 : World} {m : BM} {h : HP} {n : Nat} {w : World}
theorem put_file (H : HRel F B w0 m h n w) {j f c : Nat} {S : Nat → Prop} {E A C : List RF} {v1 v2 v3 : Value} {e : RF} (ej : lkH h j = some (.lst 76 5 c (A.flatMap fileR ++ ([.string e.nm, v1, v2, v3, .bool e.X.sure] ++ C.flatMap fileR)))) (ef : lkH h f = some (fzI S E)) (hjf : j ≠ f)
 (h1 : ∀ c, V1 m v1 c → c = .slice e.a e.X.now.length e.ka) (h2 : ∀ c, V1 m v2 c → c = .slice e.b e.X.safe.length e.kb) (h3 : ∀ c, V1 m v3 c → c = .slice e.c e.X.wait.length e.kc) (hz : FzOk S w e) :
 HRel F B w0 m (upH (upH h j (.lst 76 5 c ((A ++ e :: C).flatMap fileR))) f (fzI S (e :: E))) n w := by
 have H1 := H.re (it' := .lst 76 5 c ((A ++ e :: C).flatMap fileR)) ej (fun _ => rfl) (fun _ _ _ hb => hb) (fun g s _ ok => by
  have key : ∀ l, LR (V1 m) (A.flatMap fileR ++ ([.string e.nm, v1, v2, v3, .bool e.X.sure] ++ C.flatMap fileR)) l → LR (V1 m) ((A ++ e :: C).flatMap fileR) l := fun l hl => by
   obtain ⟨a, r, rfl, ha, hr⟩ := LR.split hl
   obtain ⟨b, d, rfl, hb, hd⟩ := LR.split hr
   rw [List.flatMap_append, List.flatMap_cons]
   refine ha.append (LR.append ?_ hd)
   match b, hb with
   | [b1, b2, b3, b4, b5], ⟨q1, q2, q3, q4, q5, _⟩ =>
    rw [(V1.flat rfl).1 q1, h1 _ q2, h2 _ q3, h3 _ q4, (V1.flat rfl).1 q5]
    exact fileR_C.2 rfl
  rcases ok with ⟨a, b, hn⟩ | ⟨a, b, cc, l, cur, hl, r⟩
  · exfalso
    have := congrArg List.length hn
    rw [List.length_append, List.length_append] at this
    simp at this
  · exact .inr ⟨a, b, cc, l, cur, key l hl, r⟩)
 exact H1.re (it := fzI S E) (it' := fzI S (e :: E)) (by rw [lkH_up ej, if_neg (fun z => hjf z.symm)]; exact ef) (fun _ => rfl) (fun _ _ _ hb => hb) (fun g s _ ok => ⟨ok.1, ok.2.1, ok.2.2.1, FzP.stab S _, fun x hx => by
  cases hx with
  | head => exact hz
  | tail _ hx => exact ok.2.2.2.2 x hx⟩)
theorem less_kept (H : HRel F B w0 m h n w) {f : Nat} {S : Nat → Prop} {E E' : List RF} (ef : lkH h f = some (fzI S E)) (hs : ∀ w, FzP S E w → FzP S E' w) : HRel F B w0 m (upH h f (fzI S E')) n w :=
 H.re ef (fun _ => rfl) (fun _ _ _ hb => hb) (fun g s _ ok => ⟨ok.1, ok.2.1, ok.2.2.1, FzP.stab S _, hs _ ok.2.2.2.2⟩)
theorem nil_len {α : Type} {f : α → List Value} {z : Nat} (hf : ∀ a, (f a).length = z) (hz : 0 < z) {l : List α} (h : l.flatMap f = []) : l.length = 0 := by
 have := congrArg List.length h
 rw [len_cells f z hf, List.length_nil] at this
 rcases Nat.mul_eq_zero.1 this with h | h
 · exact h
 · omega
theorem nil_map {l : List Bool} (h : l.map Value.bool = []) : l.length = 0 := by
 have := congrArg List.length h
 rwa [List.length_map, List.length_nil] at this
structure Kept (m : BM) (w : World) (S : Nat → Prop) (p : Option Addr) (l k : Nat) (v : Value) (cs : List Value) : Prop where
 plc : (l = 0 ∧ k = 0) ∨ ∃ g o, p = some ⟨g, o, none⟩
 val : ∀ c, V1 m v c → c = .slice p l k
 slc : SlcS S w p l k cs
theorem Kept.more {m : BM} {w : World} {S S' : Nat → Prop} {p : Option Addr} {l k : Nat} {v : Value} {cs : List Value} (h : Kept m w S p l k v cs) (hs : ∀ b, S b → S' b) : Kept m w S' p l k v cs := ⟨h.plc, h.val, h.slc.same hs (fun _ _ => rfl)⟩
theorem keep_new (H : HRel F B w0 m h n w) {a f : Nat} {ty : TypeId} {size k l : Nat} {cs : List Value} {S : Nat → Prop} {E : List RF} (ea : lkH h a = some (.lst ty size k cs)) (ef : lkH h f = some (fzI S E)) (haf : a ≠ f) (hcs : ∀ v ∈ cs, flat1 v = true) (hl : cs = [] → l = 0) :
 ∃ (p : Option Addr) (S' : Nat → Prop), (∀ b, S b → S' b) ∧ Kept m w S' p l k (mslice a l k) cs ∧ HRel F B w0 m ((f, fzI S' E) :: rmHs [a, f] h) n w := by
 obtain ⟨p, S', h1, h2, h3, h4, h5⟩ := keep_list H ea ef haf hcs
 exact ⟨p, S', h1, ⟨h2 l hl, fun c hc => h3 l c ((V1.of0 rfl).1 hc) hl, h4 l hl w fun _ _ => rfl⟩, h5⟩
theorem kept_old (H : HRel F B w0 m h n w) {f : Nat} {S : Nat → Prop} {E : List RF} (ef : lkH h f = some (fzI S E)) {p : Option Addr} {l k : Nat} {cs : List Value} (hp : Plc p l k) (hs : ∀ w, FzP S E w → SlcS S w p l k cs) : Kept m w S p l k (rs p l k) cs := by
 obtain ⟨g, s, _, ok⟩ := H.dom f _ ef
 exact ⟨hp.ex, fun c hc => rs_V1.1 hc, hs w ok.2.2.2.2⟩
theorem put_kept (H : HRel F B w0 m h n w) {j f c : Nat} {S : Nat → Prop} {E A C : List RF} {v1 v2 v3 : Value} {nm : ByteArray} {X : Fl} {p1 p2 p3 : Option Addr} {k1 k2 k3 : Nat}
 (ej : lkH h j = some (.lst 76 5 c (A.flatMap fileR ++ ([.string nm, v1, v2, v3, .bool X.sure] ++ C.flatMap fileR)))) (ef : lkH h f = some (fzI S E)) (hjf : j ≠ f)
 (h1 : Kept m w S p1 X.now.length k1 v1 (X.now.flatMap cellN)) (h2 : Kept m w S p2 X.safe.length k2 v2 (X.safe.flatMap cellS)) (h3 : Kept m w S p3 X.wait.length k3 v3 (X.wait.map .bool)) :
 HRel F B w0 m (upH (upH h j (.lst 76 5 c ((A ++ ⟨nm, X, p1, p2, p3, k1, k2, k3⟩ :: C).flatMap fileR))) f (fzI S (⟨nm, X, p1, p2, p3, k1, k2, k3⟩ :: E))) n w :=
 put_file H (e := ⟨nm, X, p1, p2, p3, k1, k2, k3⟩) ej ef hjf h1.val h2.val h3.val ⟨h1.slc, h2.slc, h3.slc⟩
end
end Go.Proofs.YtelolcagncgfpaaGreat
namespace Go.Proofs.YtelolcagncgfpaaGreat
open Go.RowKit
set_option linter.unusedSimpArgs false
set_option linter.unusedVariables false
def RefP {α : Type} (vT : α → Value) (R : α → DM → Prop) (v : Value) (h : HP) (n : Nat) : Prop :=
 ∃ (a : α) (D : DM) (S : Nat → Prop), R a D ∧ v = vT a ∧ h = [(0, refI S D)] ∧ n = 200
theorem of_ref {f : FuncId} (hok : FnOk Tryz.prog f) {args : List Value} {S : Nat → Prop} {D : DM} {K : Value → HP → Nat → Prop} (hc : ∀ E c q S', OpenR D E c q → CallOb Tryz.prog f (ptr 0 :: args) (opH 1 c D.k q E S') 3 K) :
 CallOb Tryz.prog f (ptr 0 :: args) [(0, refI S D)] 1 K := by
 refine CallOb.pre hok fun F B w0 m w cs H hcs => ?_
 match cs, hcs with
 | c :: cs, ⟨h0, hr⟩ =>
  obtain ⟨b, hb, rfl⟩ := VR.ptr h0
  obtain ⟨g, s, hg, hs, rfl⟩ := hb.old
  obtain ⟨g', s', hg', ok⟩ := H.dom 0 _ (rfl : lkH [(0, refI S D)] 0 = some (refI S D))
  obtain ⟨rfl, rfl⟩ := H.fn _ _ _ _ _ hg hg'
  rcases ok.1 with ⟨x, _⟩ | rfl
  · exact absurd x hs
  obtain ⟨E, c, q, S', m', hle, hO, H'⟩ := open_ref H (i := 0) (S := S) (D := D) rfl hg
  refine ⟨m', ptr 0 :: args, opH 1 c D.k q E S', 3, hle, H'.sub_of fun i it e => ?_, ⟨h0.mono hle, LR.mono (fun _ _ x => x.mono hle) hr⟩, hc E c q S' hO⟩
  have := lkH_mem e
  simp only [List.mem_cons, Prod.mk.injEq, List.not_mem_nil, or_false] at this
  rcases this with ⟨rfl, rfl⟩ | ⟨rfl, rfl⟩ | ⟨rfl, rfl⟩ <;> rfl
theorem open_op {D : DM} {E : List RF} {c : Nat} {q : RK} (hD : D.Ok) (hO : OpenR D E c q) : OpR D.k q E c := ⟨hD.k, hO.rk, by rw [hO.fs]; exact hD.fs, hO.le, hO.cap⟩
section
variable {F : Nat → Prop} {B : Nat} {w0 : World} {m : BM} {n : Nat} {w : World} {c : Value}
theorem ref_end {α : Type} {vT : α → Value} {R : α → DM → Prop} {a : α} {D : DM} (hn : n ≤ 200) (hv : VR m (vT a) c) (hr : R a D) (H : ∃ S, HRel F B w0 m [(0, refI S D)] n w) : ∃ m' v' h2 n2, m.le m' ∧ VR m' v' c ∧ HRel F B w0 m' h2 n2 w ∧ RefP vT R v' h2 n2 := by
 obtain ⟨S, H'⟩ := H
 exact ⟨m, vT a, _, 200, BM.le_refl m, hv, H'.up (BM.le_refl m) H'.fn (fun i g s x => Nat.lt_of_lt_of_le (H'.fresh i g s x) hn), a, D, S, hr, rfl, rfl, rfl⟩
theorem ref_same {E E' : List RF} {j c' : Nat} {k : Dk} {q : RK} {S : Nat → Prop} (H : HRel F B w0 m [(0, .own 63 (rdv j E'.length c' k q)), (j, .lst 76 5 c' (E'.flatMap fileR)), (2, fzI S E)] n w) (hj : j ≠ 0 ∧ j ≠ 2) (hs : ∀ e ∈ E', e ∈ E) (hO : OpenR ⟨k, filesR E'⟩ E' c' q) : ∃ S, HRel F B w0 m [(0, refI S ⟨k, filesR E'⟩)] n w := by
 have e0 : lkH [(0, Itm.own 63 (rdv j E'.length c' k q)), (j, .lst 76 5 c' (E'.flatMap fileR)), (2, fzI S E)] 0 = some (.own 63 (rdv j E'.length c' k q)) := rfl
 have ej : lkH [(0, Itm.own 63 (rdv j E'.length c' k q)), (j, .lst 76 5 c' (E'.flatMap fileR)), (2, fzI S E)] j = some (.lst 76 5 c' (E'.flatMap fileR)) := by
  rw [lkH_cons (by omega)]; simp [lkH]
 have e2 : lkH [(0, Itm.own 63 (rdv j E'.length c' k q)), (j, .lst 76 5 c' (E'.flatMap fileR)), (2, fzI S E)] 2 = some (fzI S E) := by
  rw [lkH_cons (by omega), lkH_cons (by omega)]; rfl
 have H1 := less_kept H e2 (E' := E') (fun w h e he => h e (hs e he))
 have f0 := (lkH_up e2 (it := fzI S E') (i := 0)).trans ((if_neg (by omega)).trans e0)
 have fj := (lkH_up e2 (it := fzI S E') (i := j)).trans ((if_neg (by omega)).trans ej)
 have f2 := (lkH_up e2 (it := fzI S E') (i := 2)).trans (if_pos rfl)
 obtain ⟨S2, H2⟩ := close_ref H1 f0 fj f2 (by simp; omega) hO
 exact ⟨S2, H2.sub_of fun i it e => by
  have := lkH_mem e
  simp only [List.mem_cons, Prod.mk.injEq, List.not_mem_nil, or_false] at this
  obtain ⟨rfl, rfl⟩ := this
  rfl⟩
theorem ref_put {A C E0 : List RF} {l c' : Nat} {k : Dk} {q : RK} {S : Nat → Prop} {v1 v2 v3 : Value} {e : RF}
 (H : HRel F B w0 m [(0, .own 63 (rdv 31 l c' k q)), (31, .lst 76 5 c' (A.flatMap fileR ++ ([.string e.nm, v1, v2, v3, .bool e.X.sure] ++ C.flatMap fileR))), (2, fzI S E0)] n w) (hl : l = (A ++ e :: C).length)
 (h1 : Kept m w S e.a e.X.now.length e.ka v1 (e.X.now.flatMap cellN)) (h2 : Kept m w S e.b e.X.safe.length e.kb v2 (e.X.safe.flatMap cellS)) (h3 : Kept m w S e.c e.X.wait.length e.kc v3 (e.X.wait.map .bool))
 (hs : ∀ w, FzP S E0 w → FzP S (A ++ C) w) (hO : OpenR ⟨k, filesR (A ++ e :: C)⟩ (A ++ e :: C) c' q) : ∃ S, HRel F B w0 m [(0, refI S ⟨k, filesR (A ++ e :: C)⟩)] n w := by
 subst hl
 have H1 := put_kept H (j := 31) (f := 2) (nm := e.nm) (X := e.X) rfl rfl (by decide) h1 h2 h3
 have H2 : HRel F B w0 m [(0, .own 63 (rdv 31 (A ++ e :: C).length c' k q)), (31, .lst 76 5 c' ((A ++ e :: C).flatMap fileR)), (2, fzI S (e :: E0))] n w := H1
 have H3 := less_kept H2 (f := 2) (E := e :: E0) (E' := A ++ e :: C) rfl (fun w h x hx => by
  rcases List.mem_append.1 hx with hx | hx
  · exact hs w (fun y hy => h y (List.mem_cons_of_mem _ hy)) x (List.mem_append_left _ hx)
  · cases hx with
    | head => exact h _ (List.Mem.head _)
    | tail _ hx => exact hs w (fun y hy => h y (List.mem_cons_of_mem _ hy)) x (List.mem_append_right _ hx))
 exact ref_same (j := 31) H3 (by decide) (fun _ h => h) hO
end
theorem rread_c (S : Nat → Prop) (D : DM) (hD : D.Ok) (s : ByteArray) (i : Int) :
 CallOb Tryz.prog 38 [ptr 0, .string s, iv i] [(0, refI S D)] 1 (RefP (fun a : ByteArray × Int => .tuple #[.string a.1, iv a.2]) (fun a D' => (a, D') = readD D s i)) :=
 of_ref Tryz.call38 fun E c q S' hO => (rread_o E c D.k q S' s i (open_op hD hO)).conv fun v h1 n1 ⟨z, hz, hv, hh, hm⟩ F B w0 m w cc H hc => by
  subst hv hh hm
  refine ref_end (a := z.1) (D := ⟨z.2.1, filesR E⟩) (by decide) hc ?_ (ref_same H (by decide) (fun _ h => h) ⟨rfl, hz.2, hO.le, hO.cap⟩)
  have := hz.1
  rw [hO.fs] at this ⊢
  exact this
theorem rdrop_c (S : Nat → Prop) (D : DM) (hD : D.Ok) (s : ByteArray) :
 CallOb Tryz.prog 49 [ptr 0, .string s] [(0, refI S D)] 1 (RefP (fun a : Int => iv a) (fun a D' => (a, D') = dropD D s)) :=
 of_ref Tryz.call49 fun E c q S' hO => (rdrop_o E c D.k q S' s (open_op hD hO)).conv fun v h1 n1 ⟨z, hz, hv, hh, hm⟩ F B w0 m w cc H hc => by
  subst hv hh hm
  refine ref_end (a := z.e) (D := ⟨z.k, filesR z.E⟩) (by decide) hc ?_ (ref_same H (by decide) hz.2.2.1 ⟨rfl, hz.2.1, hz.2.2.2, fun e he => hO.cap e (hz.2.2.1 e he)⟩)
  have := hz.1
  rw [hO.fs] at this
  exact this
theorem put_split {E : List RF} {p : Nat} {x e : RF} (hx : E[p]? = some x) : E.take p ++ e :: E.drop (p + 1) = E.set p e := by
 have hp := (List.getElem?_eq_some_iff.1 hx).1
 rw [List.set_eq_take_append_cons_drop, if_pos hp]
theorem rsync_c (S : Nat → Prop) (D : DM) (hD : D.Ok) (s : ByteArray) :
 CallOb Tryz.prog 48 [ptr 0, .string s] [(0, refI S D)] 1 (RefP (fun a : Int => iv a) (fun a D' => (a, D') = syncD D s)) :=
 of_ref Tryz.call48 fun E c q S' hO => (rsync_o E c D.k q S' s (open_op hD hO)).conv fun v h1 n1 ⟨z, hz, hv, hh, hm⟩ F B w0 m w cc H hc => by
  subst hv hh hm
  cases z with
  | inl z =>
   obtain ⟨⟨h1, _⟩, h2, rfl, rfl⟩ := hz
   refine ref_end (a := z.e) (D := ⟨z.k, filesR z.E⟩) (by decide) hc ?_ (ref_same H (by decide) (fun _ h => h) ⟨rfl, h2, hO.le, hO.cap⟩)
   rw [hO.fs] at h1 ⊢
   exact h1
  | inr z =>
   obtain ⟨hb, hq, hx, hnx, hkb, hkc⟩ := hz
   have hxm := List.mem_of_getElem? hx
   have hcx := hO.cap _ hxm
   have K1 := kept_old H (f := 2) (S := S') (E := E) rfl hcx.a (fun w h => (h _ hxm).a)
   obtain ⟨p2, S2, hs2, K2, H2⟩ := keep_new H (a := 32) (f := 2) (l := z.x.X.now.length) rfl rfl (by decide) (fun v hv => cells_flat hv) (fun h => nil_len (f := cellN) (z := 3) (fun _ => rfl) (by decide) h)
   have H2' : HRel F B w0 m [(2, fzI S2 E), (0, .own 63 (rdv 31 E.length c z.k z.q)), (31, .lst 76 5 c (rowP E z.p (syV z))), (33, .lst 4 1 z.kc ((List.replicate z.x.X.now.length false).map .bool))] 60 w := H2
   obtain ⟨p3, S3, hs3, K3, H3⟩ := keep_new H2' (a := 33) (f := 2) (l := z.x.X.now.length) rfl rfl (by decide) (fun v hv => bools_flat hv) (fun h => by have := nil_map h; rwa [List.length_replicate] at this)
   have H3' : HRel F B w0 m [(0, .own 63 (rdv 31 E.length c z.k z.q)), (31, .lst 76 5 c ((E.take z.p).flatMap fileR ++ (syV z ++ (E.drop (z.p + 1)).flatMap fileR))), (2, fzI S3 E)] 60 w := H3.sub_of fun i it e => by
    have := lkH_mem e
    simp only [List.mem_cons, Prod.mk.injEq, List.not_mem_nil, or_false] at this
    rcases this with ⟨rfl, rfl⟩ | ⟨rfl, rfl⟩ | ⟨rfl, rfl⟩ <;> rfl
   have hsp := put_split (e := ⟨z.x.nm, syncF z.x.X, z.x.a, p2, p3, z.x.ka, z.kb, z.kc⟩) hx
   have hfs : filesR (E.set z.p ⟨z.x.nm, syncF z.x.X, z.x.a, p2, p3, z.x.ka, z.kb, z.kc⟩) = putF D.fs s (syncF z.x.X) := by
    have hs0 := hD.fs.sorted
    rw [← hO.fs, files_split hx, hnx] at hs0
    rw [← hsp, ← hO.fs, files_split hx, hnx, put_mid hs0]
    unfold filesR
    rw [List.map_append, List.map_cons]
   have hr : ((0 : Int), (⟨z.k, putF D.fs s (syncF z.x.X)⟩ : DM)) = syncD D s := by
    have hf : findF D.fs s = some z.x.X := by rw [← hO.fs]; exact place_some (by rw [hO.fs]; exact hD.fs.sorted) hx hnx
    unfold syncD foundD
    dsimp only
    rw [← hb, hf]
    rfl
   refine ref_end (a := 0) (D := ⟨z.k, filesR (E.set z.p ⟨z.x.nm, syncF z.x.X, z.x.a, p2, p3, z.x.ka, z.kb, z.kc⟩)⟩) (show 60 ≤ 200 by decide) hc (by rw [hfs]; exact hr) ?_
   rw [← hsp]
   refine ref_put (e := ⟨z.x.nm, syncF z.x.X, z.x.a, p2, p3, z.x.ka, z.kb, z.kc⟩) H3' ?_ ((K1.more hs2).more hs3) ?_ ?_ ?_ ?_
   · rw [hsp, List.length_set]
   · show Kept m w S3 p2 (z.x.X.now.map some).length z.kb (mslice 32 z.x.X.now.length z.kb) ((z.x.X.now.map some).flatMap cellS)
     rw [List.length_map, safe_now]
     exact K2.more hs3
   · show Kept m w S3 p3 (List.replicate z.x.X.now.length false).length z.kc (mslice 33 z.x.X.now.length z.kc) ((List.replicate z.x.X.now.length false).map .bool)
     rw [List.length_replicate]
     exact K3
   · intro w h x hx
     rcases List.mem_append.1 hx with hx | hx
     · exact h x (List.mem_of_mem_take hx)
     · exact h x (List.mem_of_mem_drop hx)
   · rw [hsp]
     refine ⟨rfl, hq, by rw [List.length_set]; exact hO.le, fun e he => ?_⟩
     rcases List.mem_or_eq_of_mem_set he with he | rfl
     · exact hO.cap e he
     · exact ⟨hcx.a, ⟨by show (z.x.X.now.map some).length ≤ _; rw [List.length_map]; exact hkb, by show ((z.x.X.now.map some).length = 0 ∧ _) ∨ _; rw [List.length_map]; exact K2.plc⟩, ⟨by show (List.replicate z.x.X.now.length false).length ≤ _; rw [List.length_replicate]; exact hkc, by show ((List.replicate z.x.X.now.length false).length = 0 ∧ _) ∨ _; rw [List.length_replicate]; exact K3.plc⟩⟩
theorem rcut_c (S : Nat → Prop) (D : DM) (hD : D.Ok) (s : ByteArray) (n : Int) :
 CallOb Tryz.prog 47 [ptr 0, .string s, iv n] [(0, refI S D)] 1 (RefP (fun a : Int => iv a) (fun a D' => (a, D') = cutD D s n)) :=
 of_ref Tryz.call47 fun E c q S' hO => (rcut_o E c D.k q S' s n (open_op hD hO)).conv fun v h1 n1 ⟨z, hz, hv, hh, hm⟩ F B w0 m w cc H hc => by
  subst hv hh hm
  cases z with
  | inl z =>
   obtain ⟨⟨h1, _⟩, h2, rfl, rfl⟩ := hz
   refine ref_end (a := z.e) (D := ⟨z.k, filesR z.E⟩) (by decide) hc ?_ (ref_same H (by decide) (fun _ h => h) ⟨rfl, h2, hO.le, hO.cap⟩)
   rw [hO.fs] at h1 ⊢
   exact h1
  | inr z =>
   obtain ⟨hb, hq, hx, hnx, hn, hnl, hka, hkb, hkc⟩ := hz
   have hxm := List.mem_of_getElem? hx
   have hxo := (open_op hD hO).ok hxm
   have hxs := hxo.safe
   have hxw := hxo.wait
   have t1 : (z.x.X.now.take z.n).length = z.n := by rw [List.length_take]; omega
   have t2 : (z.x.X.safe.take z.n).length = z.n := by rw [List.length_take]; omega
   have t3 : (z.x.X.wait.take z.n).length = z.n := by rw [List.length_take]; omega
   obtain ⟨p1, S1, hs1, K1, H1⟩ := keep_new H (a := 32) (f := 2) (l := z.n) rfl rfl (by decide) (fun v hv => cells_flat hv) (fun h => by have := nil_len (f := cellN) (z := 3) (fun _ => rfl) (by decide) h; rwa [t1] at this)
   have H1' : HRel F B w0 m [(2, fzI S1 E), (0, .own 63 (rdv 31 E.length c z.k z.q)), (31, .lst 76 5 c (rowP E z.p (cuV z))), (33, .lst 78 3 z.kb ((z.x.X.safe.take z.n).flatMap cellS)), (34, .lst 4 1 z.kc ((z.x.X.wait.take z.n).map .bool))] 60 w := H1
   obtain ⟨p2, S2, hs2, K2, H2⟩ := keep_new H1' (a := 33) (f := 2) (l := z.n) rfl rfl (by decide) (fun v hv => safes_flat hv) (fun h => by have := nil_len (f := cellS) (z := 3) (fun _ => rfl) (by decide) h; rwa [t2] at this)
   have H2' : HRel F B w0 m [(2, fzI S2 E), (0, .own 63 (rdv 31 E.length c z.k z.q)), (31, .lst 76 5 c (rowP E z.p (cuV z))), (34, .lst 4 1 z.kc ((z.x.X.wait.take z.n).map .bool))] 60 w := H2
   obtain ⟨p3, S3, hs3, K3, H3⟩ := keep_new H2' (a := 34) (f := 2) (l := z.n) rfl rfl (by decide) (fun v hv => bools_flat hv) (fun h => by have := nil_map h; rwa [t3] at this)
   have H3' : HRel F B w0 m [(0, .own 63 (rdv 31 E.length c z.k z.q)), (31, .lst 76 5 c ((E.take z.p).flatMap fileR ++ (cuV z ++ (E.drop (z.p + 1)).flatMap fileR))), (2, fzI S3 E)] 60 w := H3.sub_of fun i it e => by
    have := lkH_mem e
    simp only [List.mem_cons, Prod.mk.injEq, List.not_mem_nil, or_false] at this
    rcases this with ⟨rfl, rfl⟩ | ⟨rfl, rfl⟩ | ⟨rfl, rfl⟩ <;> rfl
   have hsp := put_split (e := ⟨z.x.nm, cutF z.x.X z.n, p1, p2, p3, z.ka, z.kb, z.kc⟩) hx
   have hfs : filesR (E.set z.p ⟨z.x.nm, cutF z.x.X z.n, p1, p2, p3, z.ka, z.kb, z.kc⟩) = putF D.fs s (cutF z.x.X z.n) := by
    have hs0 := hD.fs.sorted
    rw [← hO.fs, files_split hx, hnx] at hs0
    rw [← hsp, ← hO.fs, files_split hx, hnx, put_mid hs0]
    unfold filesR
    rw [List.map_append, List.map_cons]
   have hr : ((0 : Int), (⟨z.k, putF D.fs s (cutF z.x.X z.n)⟩ : DM)) = cutD D s n := by
    have hf : findF D.fs s = some z.x.X := by rw [← hO.fs]; exact place_some (by rw [hO.fs]; exact hD.fs.sorted) hx hnx
    unfold cutD foundD
    dsimp only
    rw [← hb, hf]
    dsimp only [Option.isSome_some, Option.getD_some]
    simp only [if_true, ne_eq, not_true, if_false]
    rw [if_neg (by omega), ← hn, Int.toNat_natCast]
   refine ref_end (a := 0) (D := ⟨z.k, filesR (E.set z.p ⟨z.x.nm, cutF z.x.X z.n, p1, p2, p3, z.ka, z.kb, z.kc⟩)⟩) (show 60 ≤ 200 by decide) hc (by rw [hfs]; exact hr) ?_
   rw [← hsp]
   refine ref_put (e := ⟨z.x.nm, cutF z.x.X z.n, p1, p2, p3, z.ka, z.kb, z.kc⟩) H3' ?_ ?_ ?_ ?_ ?_ ?_
   · rw [hsp, List.length_set]
   · show Kept m w S3 p1 (z.x.X.now.take z.n).length z.ka (mslice 32 z.n z.ka) ((z.x.X.now.take z.n).flatMap cellN)
     rw [t1]
     exact (K1.more hs2).more hs3
   · show Kept m w S3 p2 (z.x.X.safe.take z.n).length z.kb (mslice 33 z.n z.kb) ((z.x.X.safe.take z.n).flatMap cellS)
     rw [t2]
     exact K2.more hs3
   · show Kept m w S3 p3 (z.x.X.wait.take z.n).length z.kc (mslice 34 z.n z.kc) ((z.x.X.wait.take z.n).map .bool)
     rw [t3]
     exact K3
   · intro w h x hx
     rcases List.mem_append.1 hx with hx | hx
     · exact h x (List.mem_of_mem_take hx)
     · exact h x (List.mem_of_mem_drop hx)
   · rw [hsp]
     refine ⟨rfl, hq, by rw [List.length_set]; exact hO.le, fun e he => ?_⟩
     rcases List.mem_or_eq_of_mem_set he with he | rfl
     · exact hO.cap e he
     · exact ⟨⟨by show (z.x.X.now.take z.n).length ≤ _; rw [t1]; exact hka, by show ((z.x.X.now.take z.n).length = 0 ∧ _) ∨ _; rw [t1]; exact K1.plc⟩, ⟨by show (z.x.X.safe.take z.n).length ≤ _; rw [t2]; exact hkb, by show ((z.x.X.safe.take z.n).length = 0 ∧ _) ∨ _; rw [t2]; exact K2.plc⟩, ⟨by show (z.x.X.wait.take z.n).length ≤ _; rw [t3]; exact hkc, by show ((z.x.X.wait.take z.n).length = 0 ∧ _) ∨ _; rw [t3]; exact K3.plc⟩⟩
theorem rwrite_c (S : Nat → Prop) (D : DM) (hD : D.Ok) (s : ByteArray) (i : Int) (d : ByteArray) :
 CallOb Tryz.prog 45 [ptr 0, .string s, iv i, .string d] [(0, refI S D)] 1 (RefP (fun a : Int => iv a) (fun a D' => (a, D') = writeD D s i d)) :=
 of_ref Tryz.call45 fun E c q S' hO => (rwrite_o E c D.k q S' s i d (open_op hD hO)).conv fun v h1 n1 ⟨z, hz, hv, hh, hm⟩ F B w0 m w cc H hc => by
  subst hv hh hm
  cases z with
  | ls z =>
   obtain ⟨⟨h1, _⟩, h2, rfl, h4⟩ := hz
   refine ref_end (a := z.e) (D := ⟨z.k, filesR z.E⟩) (by decide) hc ?_ (ref_same H (by decide) (fun _ h => h) ⟨rfl, h2, h4, hO.cap⟩)
   rw [hO.fs] at h1 ⊢
   exact h1
  | grow z =>
   obtain ⟨hr, hq, hy, hc2, hi, hka, hkb, hkc⟩ := hz
   have hx := hy.at1
   have hxm := List.mem_of_getElem? hx
   have hcx := hy.cap _ hxm
   have t1 : (z.x.X.now ++ [some d]).length = (z.x.X.now.length + 1) := by rw [List.length_append]; rfl
   have t2 : (z.x.X.safe ++ [none]).length = z.x.X.safe.length + 1 := by rw [List.length_append]; rfl
   have t3 : (z.x.X.wait ++ [true]).length = (z.x.X.wait.length + 1) := by rw [List.length_append]; rfl
   obtain ⟨p1, S1, hs1, K1, H1⟩ := keep_new H (a := 32) (f := 2) (l := (z.x.X.now.length + 1)) rfl rfl (by decide) (fun v hv => cells_flat hv) (fun h => by have := nil_len (f := cellN) (z := 3) (fun _ => rfl) (by decide) h; rwa [t1] at this)
   have H1' : HRel F B w0 m [(2, fzI S1 E), (0, .own 63 (rdv 31 z.E.length z.c z.k z.q)), (31, .lst 76 5 z.c (rowP z.E z.p [.string z.x.nm, mslice 32 (z.x.X.now.length + 1) z.ka, mslice 33 (z.x.X.safe.length + 1) z.kb, mslice 34 (z.x.X.wait.length + 1) z.kc, .bool z.x.X.sure])), (33, .lst 78 3 z.kb ((z.x.X.safe ++ [none]).flatMap cellS)), (34, .lst 4 1 z.kc ((z.x.X.wait ++ [true]).map .bool))] 100 w := H1
   obtain ⟨p2, S2, hs2, K2, H2⟩ := keep_new H1' (a := 33) (f := 2) (l := z.x.X.safe.length + 1) rfl rfl (by decide) (fun v hv => safes_flat hv) (fun h => by have := nil_len (f := cellS) (z := 3) (fun _ => rfl) (by decide) h; rwa [t2] at this)
   have H2' : HRel F B w0 m [(2, fzI S2 E), (0, .own 63 (rdv 31 z.E.length z.c z.k z.q)), (31, .lst 76 5 z.c (rowP z.E z.p [.string z.x.nm, mslice 32 (z.x.X.now.length + 1) z.ka, mslice 33 (z.x.X.safe.length + 1) z.kb, mslice 34 (z.x.X.wait.length + 1) z.kc, .bool z.x.X.sure])), (34, .lst 4 1 z.kc ((z.x.X.wait ++ [true]).map .bool))] 100 w := H2
   obtain ⟨p3, S3, hs3, K3, H3⟩ := keep_new H2' (a := 34) (f := 2) (l := (z.x.X.wait.length + 1)) rfl rfl (by decide) (fun v hv => bools_flat hv) (fun h => by have := nil_map h; rwa [t3] at this)
   have H3' : HRel F B w0 m [(0, .own 63 (rdv 31 z.E.length z.c z.k z.q)), (31, .lst 76 5 z.c ((z.E.take z.p).flatMap fileR ++ ([.string z.x.nm, mslice 32 (z.x.X.now.length + 1) z.ka, mslice 33 (z.x.X.safe.length + 1) z.kb, mslice 34 (z.x.X.wait.length + 1) z.kc, .bool z.x.X.sure] ++ (z.E.drop (z.p + 1)).flatMap fileR))), (2, fzI S3 E)] 100 w := H3.sub_of fun i it e => by
    have := lkH_mem e
    simp only [List.mem_cons, Prod.mk.injEq, List.not_mem_nil, or_false] at this
    rcases this with ⟨rfl, rfl⟩ | ⟨rfl, rfl⟩ | ⟨rfl, rfl⟩ <;> rfl
   have hw : writeF z.x.X i.toNat d = ⟨z.x.X.now ++ [some d], z.x.X.safe ++ [none], z.x.X.wait ++ [true], z.x.X.sure⟩ := by unfold writeF; rw [if_pos (by omega)]
   have hsp := put_split (e := ⟨z.x.nm, ⟨z.x.X.now ++ [some d], z.x.X.safe ++ [none], z.x.X.wait ++ [true], z.x.X.sure⟩, p1, p2, p3, z.ka, z.kb, z.kc⟩) hx
   have hfs := hy.put ⟨z.x.nm, ⟨z.x.X.now ++ [some d], z.x.X.safe ++ [none], z.x.X.wait ++ [true], z.x.X.sure⟩, p1, p2, p3, z.ka, z.kb, z.kc⟩ hy.nm
   refine ref_end (a := 0) (D := ⟨z.k, filesR (z.E.set z.p ⟨z.x.nm, ⟨z.x.X.now ++ [some d], z.x.X.safe ++ [none], z.x.X.wait ++ [true], z.x.X.sure⟩, p1, p2, p3, z.ka, z.kb, z.kc⟩)⟩) (show 100 ≤ 200 by decide) hc (by rw [hfs]; rw [hw, hO.fs] at hr; rw [hO.fs]; exact hr) ?_
   rw [← hsp]
   refine ref_put (e := ⟨z.x.nm, ⟨z.x.X.now ++ [some d], z.x.X.safe ++ [none], z.x.X.wait ++ [true], z.x.X.sure⟩, p1, p2, p3, z.ka, z.kb, z.kc⟩) H3' ?_ ?_ ?_ ?_ ?_ ?_
   · rw [hsp, List.length_set]
   · show Kept m w S3 p1 (z.x.X.now ++ [some d]).length z.ka (mslice 32 (z.x.X.now.length + 1) z.ka) ((z.x.X.now ++ [some d]).flatMap cellN)
     rw [t1]
     exact (K1.more hs2).more hs3
   · show Kept m w S3 p2 (z.x.X.safe ++ [none]).length z.kb (mslice 33 (z.x.X.safe.length + 1) z.kb) ((z.x.X.safe ++ [none]).flatMap cellS)
     rw [t2]
     exact K2.more hs3
   · show Kept m w S3 p3 (z.x.X.wait ++ [true]).length z.kc (mslice 34 (z.x.X.wait.length + 1) z.kc) ((z.x.X.wait ++ [true]).map .bool)
     rw [t3]
     exact K3
   · intro w h x hx
     rcases List.mem_append.1 hx with hx | hx
     · exact hy.fz S3 w h x (List.mem_of_mem_take hx)
     · exact hy.fz S3 w h x (List.mem_of_mem_drop hx)
   · rw [hsp]
     refine ⟨rfl, hq, by rw [List.length_set]; exact hc2, fun e he => ?_⟩
     rcases List.mem_or_eq_of_mem_set he with he | rfl
     · exact hy.cap e he
     · exact ⟨⟨by show (z.x.X.now ++ [some d]).length ≤ _; rw [t1]; exact hka, by show ((z.x.X.now ++ [some d]).length = 0 ∧ _) ∨ _; rw [t1]; exact K1.plc⟩, ⟨by show (z.x.X.safe ++ [none]).length ≤ _; rw [t2]; exact hkb, by show ((z.x.X.safe ++ [none]).length = 0 ∧ _) ∨ _; rw [t2]; exact K2.plc⟩, ⟨by show (z.x.X.wait ++ [true]).length ≤ _; rw [t3]; exact hkc, by show ((z.x.X.wait ++ [true]).length = 0 ∧ _) ∨ _; rw [t3]; exact K3.plc⟩⟩
  | over z =>
   obtain ⟨hr, hq, hy, hc2, hi, hka, hkc⟩ := hz
   have hx := hy.at1
   have hxm := List.mem_of_getElem? hx
   have hcx := hy.cap _ hxm
   have t1 : (z.x.X.now.set i.toNat (some d)).length = z.x.X.now.length := List.length_set ..
   have t3 : (z.x.X.wait.set i.toNat true).length = z.x.X.wait.length := List.length_set ..
   obtain ⟨p1, S1, hs1, K1, H1⟩ := keep_new H (a := 32) (f := 2) (l := z.x.X.now.length) rfl rfl (by decide) (fun v hv => cells_flat hv) (fun h => by have := nil_len (f := cellN) (z := 3) (fun _ => rfl) (by decide) h; rwa [t1] at this)
   have hs2 : ∀ b, S1 b → S1 b := fun _ h => h
   have H2' : HRel F B w0 m [(2, fzI S1 E), (0, .own 63 (rdv 31 z.E.length z.c z.k z.q)), (31, .lst 76 5 z.c (rowP z.E z.p [.string z.x.nm, mslice 32 z.x.X.now.length z.ka, rs z.x.b z.x.X.safe.length z.x.kb, mslice 34 z.x.X.wait.length z.kc, .bool z.x.X.sure])), (34, .lst 4 1 z.kc ((z.x.X.wait.set i.toNat true).map .bool))] 100 w := H1
   have K2 := kept_old H2' (f := 2) (S := S1) (E := E) rfl hcx.b (fun w h => (hy.fz S1 w h _ hxm).b)
   obtain ⟨p3, S3, hs3, K3, H3⟩ := keep_new H2' (a := 34) (f := 2) (l := z.x.X.wait.length) rfl rfl (by decide) (fun v hv => bools_flat hv) (fun h => by have := nil_map h; rwa [t3] at this)
   have H3' : HRel F B w0 m [(0, .own 63 (rdv 31 z.E.length z.c z.k z.q)), (31, .lst 76 5 z.c ((z.E.take z.p).flatMap fileR ++ ([.string z.x.nm, mslice 32 z.x.X.now.length z.ka, rs z.x.b z.x.X.safe.length z.x.kb, mslice 34 z.x.X.wait.length z.kc, .bool z.x.X.sure] ++ (z.E.drop (z.p + 1)).flatMap fileR))), (2, fzI S3 E)] 100 w := H3.sub_of fun i it e => by
    have := lkH_mem e
    simp only [List.mem_cons, Prod.mk.injEq, List.not_mem_nil, or_false] at this
    rcases this with ⟨rfl, rfl⟩ | ⟨rfl, rfl⟩ | ⟨rfl, rfl⟩ <;> rfl
   have hw : writeF z.x.X i.toNat d = ⟨z.x.X.now.set i.toNat (some d), z.x.X.safe, z.x.X.wait.set i.toNat true, z.x.X.sure⟩ := by unfold writeF; rw [if_neg (by omega)]
   have hsp := put_split (e := ⟨z.x.nm, ⟨z.x.X.now.set i.toNat (some d), z.x.X.safe, z.x.X.wait.set i.toNat true, z.x.X.sure⟩, p1, z.x.b, p3, z.ka, z.x.kb, z.kc⟩) hx
   have hfs := hy.put ⟨z.x.nm, ⟨z.x.X.now.set i.toNat (some d), z.x.X.safe, z.x.X.wait.set i.toNat true, z.x.X.sure⟩, p1, z.x.b, p3, z.ka, z.x.kb, z.kc⟩ hy.nm
   refine ref_end (a := 0) (D := ⟨z.k, filesR (z.E.set z.p ⟨z.x.nm, ⟨z.x.X.now.set i.toNat (some d), z.x.X.safe, z.x.X.wait.set i.toNat true, z.x.X.sure⟩, p1, z.x.b, p3, z.ka, z.x.kb, z.kc⟩)⟩) (show 100 ≤ 200 by decide) hc (by rw [hfs]; rw [hw, hO.fs] at hr; rw [hO.fs]; exact hr) ?_
   rw [← hsp]
   refine ref_put (e := ⟨z.x.nm, ⟨z.x.X.now.set i.toNat (some d), z.x.X.safe, z.x.X.wait.set i.toNat true, z.x.X.sure⟩, p1, z.x.b, p3, z.ka, z.x.kb, z.kc⟩) H3' ?_ ?_ ?_ ?_ ?_ ?_
   · rw [hsp, List.length_set]
   · show Kept m w S3 p1 (z.x.X.now.set i.toNat (some d)).length z.ka (mslice 32 z.x.X.now.length z.ka) ((z.x.X.now.set i.toNat (some d)).flatMap cellN)
     rw [t1]
     exact (K1.more hs2).more hs3
   · exact K2.more hs3
   · show Kept m w S3 p3 (z.x.X.wait.set i.toNat true).length z.kc (mslice 34 z.x.X.wait.length z.kc) ((z.x.X.wait.set i.toNat true).map .bool)
     rw [t3]
     exact K3
   · intro w h x hx
     rcases List.mem_append.1 hx with hx | hx
     · exact hy.fz S3 w h x (List.mem_of_mem_take hx)
     · exact hy.fz S3 w h x (List.mem_of_mem_drop hx)
   · rw [hsp]
     refine ⟨rfl, hq, by rw [List.length_set]; exact hc2, fun e he => ?_⟩
     rcases List.mem_or_eq_of_mem_set he with he | rfl
     · exact hy.cap e he
     · exact ⟨⟨by show (z.x.X.now.set i.toNat (some d)).length ≤ _; rw [t1]; exact hka, by show ((z.x.X.now.set i.toNat (some d)).length = 0 ∧ _) ∨ _; rw [t1]; exact K1.plc⟩, hcx.b, ⟨by show (z.x.X.wait.set i.toNat true).length ≤ _; rw [t3]; exact hkc, by show ((z.x.X.wait.set i.toNat true).length = 0 ∧ _) ∨ _; rw [t3]; exact K3.plc⟩⟩
end Go.Proofs.YtelolcagncgfpaaGreat
namespace Go.Proofs.YtelolcagncgfpaaGreat
open Go.RowKit
set_option linter.unusedSimpArgs false
set_option linter.unusedVariables false
attribute [local irreducible] bytesOf strOf strEq strLt sfrom begS goodName sizeD armD offD
theorem cvRefApi1 {p : Prop} (h : p := by have nw := True.intro; (repeat' (first | exact True.intro | (with_reducible exact rfl) | (with_reducible exact AbsLe.refl) | (guard_target =~ @Eq Nat _ _; first | exact rfl | omega) | (guard_target =~ List.map _ _ = []; exact rfl) | (first | (guard_target =~ @Eq Nat _ _; (try dsimp only); omega) | exact covL_still rfl (files_still _) | exact covL_still rfl hvs | exact congrArg (Value.int _) (by (try dsimp only); omega) | (guard_target =~ @Eq Value _ _; exact rfl)) | (exact congrArg (Value.int _) (by omega)) | (exact covL_flat (flat_map (fun _ => rfl) _)) | (exact covL_flat flat_nil) | (refine covP_all ?_; (try clear nw); have nw := True.intro) | (refine covL_each ?_; (try clear nw); have nw := True.intro) | (refine ⟨?_, ?_⟩ <;> (try clear nw) <;> have nw := True.intro) | (guard_hyp nw : True; ((conv => whnf) <;> clear nw)))); (first | done | fail)) : p := h
theorem rnRefApi2 {p : Prop} (h : p := by refine ⟨?_, ?_, ?_⟩; (first | apply rR_tuple | apply rR_one rfl | exact rfl); all_goals (repeat' (first | (with_reducible (first | exact relH_nil | apply rn_lst | apply rn_own | apply rn_mp | apply rn_row | apply rn_abs | exact wo_nil)) | apply wo_keep rfl | apply wo_drop rfl | exact relH_nil | exact r1_flat rfl | exact r0_flat rfl | exact rl_nil | exact wo_nil | exact bk_old rfl | exact bk_new rfl | exact bk_nil rfl | apply rl_cons | (first | exact relL_still hvs | exact relL_still (files_still _)) | exact relL_flat (flat_map (fun _ => rfl) _) | exact relL_flat flat_nil | apply relL_to | apply rn_lst | apply rn_own | apply rn_mp | apply rn_row | apply relH_view rfl | apply relH_lview rfl | apply relH_fact rfl | exact r1_rig | exact r0_rig | exact r1_rigs | exact r0_rigs | apply wo_keep rfl | apply wo_drop rfl | apply r1_agg | apply rn_ptr | apply rn_slice | apply rn_slice0 | apply rn_iface | apply rn_map | apply rn_ifacem | apply r0_map | apply r0_ifacem | apply r0_ptr | apply r0_slice | apply r0_slice0 | apply r0_iface)); (first | done | fail)) : p := h
theorem rsize_k (S : Nat → Prop) (D : DM) (hD : D.Ok) (s : ByteArray) :
 CallOb Tryz.prog 19 [ptr 0, .string s] [(0, refI S D)] 1 (RefP (fun a : Int => iv a) (fun a D' => D' = D ∧ a = sizeD D s)) :=
 of_ref Tryz.call19 fun E c q S' hO => by
  have hop := open_op hD hO
  have C : CallOb Tryz.prog 19 [ptr 0, .string s] (opH 1 c D.k q E S') 3 (fun v hh m => v = iv (sizeD D s) ∧ hh = opH 1 c D.k q E S' ∧ m = 5) := by
   refine call_q (rsize_c E c D.k q s hop.len hop.fs.sorted) [(0, some 0), (1, some 1)] cvRefApi1 rfT rfT rfT (fun v h1 n1 hp => ?_)
   obtain ⟨z, hz, rfl, rfl, rfl⟩ := hp
   refine ⟨_, _, _, rnRefApi2, ?_⟩
   refine ⟨?_, rfl, rfl⟩
   rw [hz, hO.fs]
  refine C.conv fun v h1 n1 ⟨hv, hh, hm⟩ F B w0 m w cc H hc => ?_
  subst hv hh hm
  refine ref_end (a := sizeD D s) (D := D) (show 5 ≤ 200 by decide) hc ⟨rfl, rfl⟩ ?_
  have := ref_same (k := D.k) H (by decide) (fun _ h => h) ⟨rfl, hO.rk, hO.le, hO.cap⟩
  rw [hO.fs] at this
  exact this
theorem roff_k (S : Nat → Prop) (D : DM) (hD : D.Ok) :
 CallOb Tryz.prog 89 [ptr 0] [(0, refI S D)] 1 (RefP (fun _ : Unit => .tuple ([] : List Value).toArray) (fun _ D' => D' = offD D)) :=
 of_ref Tryz.call89 fun E c q S' hO => by
  have C : CallOb Tryz.prog 89 [ptr 0] (opH 1 c D.k q E S') 3 (fun v hh m => ∃ z : Dk, z = (offD ⟨D.k, []⟩).k ∧ v = .tuple ([] : List Value).toArray ∧ hh = opH 1 c z ⟨q.at', 0, q.mo⟩ E S' ∧ m = 5) := by
   refine call_q (roff_c E.length c D.k q (E.flatMap fileR) (files_still E) ⟨hD.k.2.2.2.2.1, hD.k.2.2.2.2.2.1⟩) [(0, some 0), (1, some 1)] cvRefApi1 rfT rfT rfT (fun v h1 n1 hp => ?_)
   obtain ⟨z, hz, rfl, rfl, rfl⟩ := hp
   refine ⟨_, _, _, rnRefApi2, ?_⟩
   exact ⟨z, hz, rfl, rfl, rfl⟩
  refine C.conv fun v h1 n1 ⟨z, hz, hv, hh, hm⟩ F B w0 m w cc H hc => ?_
  subst hv hh hm
  have h0 : z.at' = 0 := by
   rw [hz]; unfold offD; dsimp only; split <;> rfl
  refine ref_end (vT := fun _ : Unit => .tuple ([] : List Value).toArray) (a := ()) (D := ⟨z, filesR E⟩) (show 5 ≤ 200 by decide) hc ?_ (ref_same H (by decide) (fun _ h => h) ⟨rfl, ⟨fun _ => rfl, fun h => absurd h0 h, hO.rk.ba, (by dsimp only; omega), hO.rk.bm⟩, hO.le, hO.cap⟩)
  rw [hO.fs, hz]
  unfold offD
  rfl
end Go.Proofs.YtelolcagncgfpaaGreat
