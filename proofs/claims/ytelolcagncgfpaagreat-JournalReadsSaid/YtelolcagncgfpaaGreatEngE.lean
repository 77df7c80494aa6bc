/- A generator of conditions for a walk, part 5: what only yields, put together. No program in sight. -/
import Derived.Test.YtelolcagncgfpaaGreatEngO
namespace Go.Proofs.YtelolcagncgfpaaGreat
open Go.RowKit
set_option linter.unusedSimpArgs false
set_option linter.unusedVariables false
abbrev ifB (b : Bool) (X Y : Prop) : Prop := match b with | true => X | false => Y
theorem ifB_ok {b : Bool} {X Y : Prop} (h : ifB b X Y) : (b = true → X) ∧ (b = false → Y) := by cases b <;> exact ⟨fun e => (by first | exact h | cases e), fun e => (by first | exact h | cases e)⟩
theorem ifB_in {b : Bool} {X Y : Prop} (h1 : b = true → X) (h2 : b = false → Y) : ifB b X Y := by cases b <;> first | exact h1 rfl | exact h2 rfl
abbrev chk (b : Bool) (X : Prop) : Prop := match b with | true => X | false => False
theorem chk_ok {b : Bool} {X : Prop} (h : chk b X) : b = true ∧ X := by cases b <;> first | exact h.elim | exact ⟨rfl, h⟩
theorem chk_in {b : Bool} {X : Prop} (h : b = true) (hx : X) : chk b X := by subst h; exact hx
def isPure (T : Tab) : Op → Bool
 | .move _ | .assign _ | .pick .. | .binOp .. | .unOp .. | .load .. | .fieldAddr .. | .field .. | .indexAddr .. | .index .. | .slice .. | .extract .. | .makeInterface .. | .makeFunc .. | .nilCheck _ | .lookup .. => true
 | .convert _ dst _ => match lkR T dst with | some r => (match r.ty with | .slice _ => false | _ => true) | none => true
 | .call { callee := .builtin .len, .. } | .call { callee := .builtin .cap, .. } | .call { callee := .builtin .min, .. } | .call { callee := .builtin .max, .. } => true
 | _ => false
def evO (t : TM) : Option Operand → (Option Value → Prop) → Prop
 | none, K => K none
 | some x, K => onS (ev t x) fun v => K (some v)
def evL (t : TM) : List Operand → (List Value → Prop) → Prop
 | [], K => K []
 | x :: l, K => onS (ev t x) fun v => evL t l fun vs => K (v :: vs)
def vcExtract (v : Value) (i : Nat) (K : Value → Prop) : Prop :=
 match v with
 | .tuple vs => onS vs.toList[i]? fun u => match noTup u with | true => K u | false => False
 | _ => False
def vcIfaceV (xT : TypeId) (v : Value) (K : Value → Prop) : Prop :=
 match v with
 | .pointer (some a) => K (.iface xT (.pointer (some a)))
 | .map (some i) => K (.iface xT (.map (some i)))
 | v => match flatR v with | true => K (.iface xT v) | false => False
def vcIface (T : Tab) (xT : TypeId) (v : Value) (K : Value → Prop) : Prop :=
 onS (lkR T xT) fun r => match r.ty with
 | .iface => False
 | _ => vcIfaceV xT v K
theorem VR.func {m : BM} {fn : Fn} {fs cs : Array Value} {c : Value} (h : VR m (.func fn fs cs) c) : ∃ f2 c2, c = .func fn f2 c2 := by
 have h := (VR.of1 rfl).1 h
 unfold V1 at h
 cases e : parts1 (.func fn fs cs) with
 | none => rw [e] at h; exact ⟨_, _, h⟩
 | some x =>
  obtain ⟨l, f⟩ := x
  rw [e] at h
  obtain ⟨l', _, rfl⟩ := h
  unfold parts1 at e
  split at e
  · rename_i heq; cases heq
  · rename_i heq; cases heq; simp at e; obtain ⟨rfl, rfl⟩ := e; exact ⟨_, _, rfl⟩
  · rename_i heq; cases heq; simp at e; obtain ⟨rfl, rfl⟩ := e; exact ⟨_, _, rfl⟩
  · cases e
structure AheadOb (P : Program) (ty : TypeId) (name : String) : Prop where
 run : ∀ (a : Addr) (w : World), (nilAhead (P.types.size + Made.depth) ty (.pointer (some a)) name).run P w = .ok (some false) w
def vcFn (t : TM) (fn : Fn) (first : Array Operand) (cap : List Value) (K : Value → Prop) : Prop :=
 match first with
 | ⟨[]⟩ => match cap.all leaf with | true => K (.func fn #[] cap.toArray) | false => False
 | ⟨[x]⟩ => match fn with
  | .method s => match cap with
   | [] => onS (ev t x) fun v => match leaf v with | true => K (.func (.method s) #[v] #[]) | false => False
   | _ => False
  | _ => False
 | _ => False
def vcBuiltin (T : Tab) (hp : HP) (b : Builtin) (ts : Array TypeId) (vs : List Value) (K : Value → Prop) : Prop :=
 match b, ts, vs with
 | .len, ⟨[xT]⟩, [v] => vcLen T hp xT v K
 | .cap, ⟨[xT]⟩, [v] => vcCap T xT v K
 | .min, _, [v, u] => vcMin false v u K
 | .max, _, [v, u] => vcMin true v u K
 | _, _, _ => False
def vcPure (P : Program) (T : Tab) (t : TM) (hp : HP) (o : Op) (K : Value → Prop) : Prop :=
 match o with
 | .move x => onS (ev t x) K
 | .assign x => onS (ev t x) K
 | .pick c x y => onS (ev t c) fun v => match v with | .bool b => ifB b (onS (ev t x) K) (onS (ev t y) K) | _ => False
 | .binOp op xT x y _ => onS (ev t x) fun vx => onS (ev t y) fun vy => vcBin P T op xT y vx vy K
 | .unOp op _ x => onS (ev t x) fun v => vcUn op v K
 | .convert src dst x => onS (ev t x) fun v => vcConv T hp src dst v K
 | .load ty x => onS (ev t x) fun v => vcLoad T hp ty v K
 | .fieldAddr xT x f => onS (ev t x) fun v => vcFieldAddr T xT f v K
 | .field xT x f => onS (ev t x) fun v => vcField T xT f v K
 | .indexAddr xT x i => onS (ev t x) fun v => onS (ev t i) fun vi => vcIndexAddr T xT v vi K
 | .index xT x i => onS (ev t x) fun v => onS (ev t i) fun vi => vcIndex T xT v vi K
 | .slice xT x lo hi mx => onS (ev t x) fun v => evO t lo fun lo => evO t hi fun hi => evO t mx fun mx => vcSlice T xT v lo hi mx K
 | .extract x i => onS (ev t x) fun v => vcExtract v i K
 | .makeInterface xT x => onS (ev t x) fun v => vcIface T xT v K
 | .lookup xT x k ok => onS (ev t x) fun v => onS (ev t k) fun vk => vcLookup T hp xT v vk ok K
 | .makeFunc fn first cap => evL t cap.toList fun vs => vcFn t fn first vs K
 | .nilCheck x => onS (ev t x) fun v => match v with | .pointer (some a) => K (.pointer (some a)) | .func (.func f) a c => K (.func (.func f) a c) | .iface ty u => K (.iface ty u) | .func (.method s) ⟨[.iface ty (.pointer (some a))]⟩ ⟨[]⟩ => AheadOb P ty s ∧ K (.func (.method s) ⟨[.iface ty (.pointer (some a))]⟩ ⟨[]⟩) | _ => False
 | .call c => match c.callee with | .builtin b => evL t c.args.toList fun vs => vcBuiltin T hp b c.argTypes vs K | _ => False
 | _ => False
theorem evO_ok {t : TM} {x : Option Operand} {K : Option Value → Prop} (h : evO t x K) : ∃ v, K v ∧ ∀ {m : BM} {N : Nat} {a : Act}, TRel m N t a → optR (VR m) v (x.map a.eval) := by
 cases x with
 | none => exact ⟨none, h, fun _ => trivial⟩
 | some x =>
  obtain ⟨v, hv, hk⟩ := onS_ok h
  exact ⟨some v, hk, fun ht => ev_ok hv ht⟩
theorem evL_ok {t : TM} : ∀ {l : List Operand} {K : List Value → Prop}, evL t l K → ∃ vs, K vs ∧ ∀ {m : BM} {N : Nat} {a : Act}, TRel m N t a → LR (VR m) vs (l.map a.eval)
 | [], _, h => ⟨[], h, fun _ => trivial⟩
 | x :: l, K, h => by
  obtain ⟨v, hv, h2⟩ := onS_ok h
  obtain ⟨vs, hk, hvs⟩ := evL_ok h2
  exact ⟨v :: vs, hk, fun ht => ⟨ev_ok hv ht, hvs ht⟩⟩
theorem vcPure_ok {P : Program} {T : Tab} (hT : TabOk P T) {t : TM} {hp : HP} {o : Oper} {K : Value → Prop} (h : vcPure P T t hp o.op K) : ∃ v, K v ∧ POk P t hp o v := by
 unfold vcPure at h
 cases ho : o.op <;> rw [ho] at h <;> dsimp only at h <;> first | exact h.elim | skip
 case move x =>
  obtain ⟨v, hv, hk⟩ := onS_ok h
  exact ⟨v, hk, fun F B w0 m n w N a H ht => ⟨_, ev_ok hv ht, by simp [execOp, ho]⟩⟩
 case assign x =>
  obtain ⟨v, hv, hk⟩ := onS_ok h
  exact ⟨v, hk, fun F B w0 m n w N a H ht => ⟨_, ev_ok hv ht, by simp [execOp, ho]⟩⟩
 case pick c x y =>
  obtain ⟨v, hv, h2⟩ := onS_ok h
  cases v <;> first | exact h2.elim | skip
  rename_i b
  replace h2 := ifB_ok h2
  cases b with
  | true =>
   obtain ⟨u, hu, hk⟩ := onS_ok (h2.1 rfl)
   exact ⟨u, hk, fun F B w0 m n w N a H ht => ⟨_, ev_ok hu ht, by simp [execOp, ho, (ev_ok hv ht).bool, asBool]⟩⟩
  | false =>
   obtain ⟨u, hu, hk⟩ := onS_ok (h2.2 rfl)
   exact ⟨u, hk, fun F B w0 m n w N a H ht => ⟨_, ev_ok hu ht, by simp [execOp, ho, (ev_ok hv ht).bool, asBool]⟩⟩
 case binOp op xT x y yT =>
  obtain ⟨vx, hx, h2⟩ := onS_ok h
  obtain ⟨vy, hy, h3⟩ := onS_ok h2
  obtain ⟨v, hk, hf, hr⟩ := vcBin_ok hT h3
  refine ⟨v, hk, fun F B w0 m n w N a H ht => ⟨v, VR.same hf, ?_⟩⟩
  have := hr m w x _ _ (ev_ok hx ht) (ev_ok hy ht)
  simp only [execOp, ho, Sem.run_bind] at this ⊢
  rw [this]; rfl
 case unOp op xT x =>
  obtain ⟨v, hv, h2⟩ := onS_ok h
  obtain ⟨u, hk, hf, hr⟩ := vcUn_ok (P := P) h2
  exact ⟨u, hk, fun F B w0 m n w N a H ht => ⟨u, VR.same hf, by simp [execOp, ho, hr m w _ (ev_ok hv ht)]⟩⟩
 case convert src dst x =>
  obtain ⟨v, hv, h2⟩ := onS_ok h
  obtain ⟨u, hk, hf, hr⟩ := vcConv_ok hT h2
  exact ⟨u, hk, fun F B w0 m n w N a H ht => ⟨u, VR.same hf, by simp [execOp, ho, hr F B w0 m n w _ H (ev_ok hv ht)]⟩⟩
 case load ty x =>
  obtain ⟨v, hv, h2⟩ := onS_ok h
  obtain ⟨u, hk, hn, hr⟩ := vcLoad_ok hT h2
  refine ⟨u, hk, fun F B w0 m n w N a H ht => ?_⟩
  obtain ⟨d, hd, hr⟩ := hr F B w0 m n w _ H (ev_ok hv ht)
  exact ⟨d, hd, by simp [execOp, ho, hr]⟩
 case fieldAddr xT x f =>
  obtain ⟨v, hv, h2⟩ := onS_ok h
  obtain ⟨u, hk, hr⟩ := vcFieldAddr_ok (hp := hp) hT h2
  refine ⟨u, hk, fun F B w0 m n w N a H ht => ?_⟩
  obtain ⟨d, hd, hr⟩ := hr F B w0 m n w [a.eval x] H ⟨ev_ok hv ht, trivial⟩
  exact ⟨d, hd, by simp only [execOp, ho, Sem.run_bind]; erw [hr]; rfl⟩
 case field xT x f =>
  obtain ⟨v, hv, h2⟩ := onS_ok h
  obtain ⟨u, hk, hr⟩ := vcField_ok (hp := hp) hT h2
  refine ⟨u, hk, fun F B w0 m n w N a H ht => ?_⟩
  obtain ⟨d, hd, hr⟩ := hr F B w0 m n w [a.eval x] H ⟨ev_ok hv ht, trivial⟩
  exact ⟨d, hd, by simp only [execOp, ho, Sem.run_bind]; erw [hr]; rfl⟩
 case indexAddr xT x i =>
  obtain ⟨v, hv, h2⟩ := onS_ok h
  obtain ⟨vi, hvi, h3⟩ := onS_ok h2
  obtain ⟨u, hk, hr⟩ := vcIndexAddr_ok (hp := hp) hT h3
  refine ⟨u, hk, fun F B w0 m n w N a H ht => ?_⟩
  obtain ⟨d, hd, hr⟩ := hr F B w0 m n w [a.eval x, a.eval i] H ⟨ev_ok hv ht, ev_ok hvi ht, trivial⟩
  exact ⟨d, hd, by simp only [execOp, ho, Sem.run_bind]; erw [hr]; rfl⟩
 case index xT x i =>
  obtain ⟨v, hv, h2⟩ := onS_ok h
  obtain ⟨vi, hvi, h3⟩ := onS_ok h2
  obtain ⟨u, hk, hr⟩ := vcIndex_ok (hp := hp) hT h3
  refine ⟨u, hk, fun F B w0 m n w N a H ht => ?_⟩
  obtain ⟨d, hd, hr⟩ := hr F B w0 m n w [a.eval x, a.eval i] H ⟨ev_ok hv ht, ev_ok hvi ht, trivial⟩
  exact ⟨d, hd, by simp only [execOp, ho, Sem.run_bind]; erw [hr]; rfl⟩
 case lookup xT x i okc =>
  obtain ⟨v, hv, h2⟩ := onS_ok h
  obtain ⟨vi, hvi, h3⟩ := onS_ok h2
  obtain ⟨u, hk, hr⟩ := vcLookup_ok (hp := hp) hT h3
  refine ⟨u, hk, fun F B w0 m n w N a H ht => ?_⟩
  obtain ⟨d, hd, hr⟩ := hr F B w0 m n w [a.eval x, a.eval i] H ⟨ev_ok hv ht, ev_ok hvi ht, trivial⟩
  exact ⟨d, hd, by simp only [execOp, ho, Sem.run_bind]; erw [hr]; rfl⟩
 case slice xT x lo hi mx =>
  obtain ⟨v, hv, h2⟩ := onS_ok h
  obtain ⟨vl, h3, hl⟩ := evO_ok h2
  obtain ⟨vh, h4, hh⟩ := evO_ok h3
  obtain ⟨vm, h5, hm⟩ := evO_ok h4
  obtain ⟨u, hk, hr⟩ := vcSlice_ok (hp := hp) hT h5
  refine ⟨u, hk, fun F B w0 m n w N a H ht => ?_⟩
  obtain ⟨d, hd, hr⟩ := hr F B w0 m n w _ _ _ _ H (ev_ok hv ht) (hl ht) (hh ht) (hm ht)
  exact ⟨d, hd, by simp only [execOp, ho, Sem.run_bind, hr]; rfl⟩
 case extract x i =>
  obtain ⟨v, hv, h2⟩ := onS_ok h
  cases v <;> first | exact h2.elim | skip
  rename_i vs
  obtain ⟨u, hu, h3⟩ := onS_ok h2
  split at h3
  · rename_i hn
    refine ⟨u, h3, fun F B w0 m n w N a H ht => ?_⟩
    obtain ⟨l, hl, e⟩ := VR.tup (ev_ok hv ht)
    obtain ⟨d, hd, hv⟩ := hl.get hu
    exact ⟨d, (VR.of1 hn).2 hv, by simp [execOp, ho, e, Instr.extract, hd]⟩
  · exact h3.elim
 case makeInterface xT x =>
  obtain ⟨v, hv, h2⟩ := onS_ok h
  obtain ⟨r, hr, h3⟩ := onS_ok h2
  obtain ⟨ok, rfl⟩ := hT.look hr
  have hd := ok.desc
  have key : ∀ (hni : ∀ ms, P.underlying r.t ≠ some (.interface ms)) (dd : ∃ d, P.underlying r.t = some d) (a : Act) (w : World), (execOp a.eval o).run P w = .ok (.value (.iface r.t (a.eval x))) w := by
   intro hni ⟨d, hdd⟩ a w
   have : ∀ ms, d ≠ .interface ms := fun ms e => hni ms (e ▸ hdd)
   simp only [execOp, ho, Instr.makeInterface, Sem.run_bind, run_underlying hdd, Result.andThen_ok]
   cases d <;> first | rfl | exact absurd rfl (this _)
  have hn : (∀ ms, P.underlying r.t ≠ some (.interface ms)) ∧ (∃ d, P.underlying r.t = some d) := by
   cases e : r.ty <;> rw [e] at hd h3 <;> first | exact h3.elim | exact hd.elim | skip
   case struct fs => obtain ⟨Fs, hF, _⟩ := hd; exact ⟨fun ms => by rw [hF]; simp, _, hF⟩
   case fn => obtain ⟨_, _, _, hF⟩ := hd; exact ⟨fun ms => by rw [hF]; simp, _, hF⟩
   all_goals exact ⟨fun ms => by rw [show P.underlying r.t = _ from hd]; simp, _, hd⟩
  have h4 : vcIfaceV r.t v K := by
   cases e : r.ty <;> rw [e] at h3 <;> first | exact h3.elim | exact h3
  unfold vcIfaceV at h4
  clear h3
  split at h4
  · refine ⟨_, h4, fun F B w0 m n w N a H ht => ?_⟩
    obtain ⟨b, hb, e⟩ := VR.ptr (ev_ok hv ht)
    exact ⟨_, (VR.of0 rfl).2 ⟨b, hb, rfl⟩, by rw [key hn.1 hn.2, e]⟩
  · refine ⟨_, h4, fun F B w0 m n w N a H ht => ?_⟩
    obtain ⟨g, s, hm, hs, e⟩ := VR.mapv (ev_ok hv ht)
    exact ⟨_, (VR.of0 rfl).2 ⟨⟨g, 0 + sh s, none⟩, A0.in hm hs, rfl⟩, by rw [key hn.1 hn.2, e]⟩
  · split at h4
    · rename_i hne hne2 x1 hf
      refine ⟨_, h4, fun F B w0 m n w N a H ht => ?_⟩
      refine ⟨.iface r.t (a.eval x), ?_, key hn.1 hn.2 a w⟩
      rw [eval_flat hv hf ht]
      refine VR.same ?_
      clear hv h h2 h4 key hf
      cases v <;> first | rfl | skip
      · rename_i a'
        cases a' with
        | none => rfl
        | some a' => exact (hne a' rfl).elim
      · rename_i a'
        cases a' with
        | none => rfl
        | some a' => exact (hne2 a' rfl).elim
    · exact h4.elim
 case makeFunc fn first cap =>
  obtain ⟨vs, h2, hvs⟩ := evL_ok h
  unfold vcFn at h2
  split at h2
  · split at h2
    · rename_i hl
      refine ⟨_, h2, fun F B w0 m n w N a H ht => ?_⟩
      have hl' : ∀ u ∈ vs, leaf u = true := by simpa using hl
      have h0 : LR (V0 m) vs (cap.toList.map a.eval) := by
       have := hvs ht
       clear hl h2 hvs h
       generalize cap.toList.map a.eval = cs at this
       induction vs generalizing cs with
       | nil => cases cs with | nil => trivial | cons _ _ => exact this.elim
       | cons v vs ih =>
        cases cs with
        | nil => exact this.elim
        | cons c cs => exact ⟨(VR.of0 (hl' v (by simp))).1 this.1, ih (fun u hu => hl' u (by simp [hu])) cs this.2⟩
      refine ⟨_, (VR.of1 rfl).2 ⟨_, h0, rfl⟩, ?_⟩
      simp only [execOp, ho, Instr.makeFunc, Sem.run_bind, Sem.run_pure, Result.andThen_ok]
      congr 3 <;> first | rfl | (apply Array.toList_inj.1; simp)
    · exact h2.elim
  · split at h2
    · split at h2
      · obtain ⟨v, hv, h3⟩ := onS_ok h2
        obtain ⟨hl, h4⟩ := ifLeaf h3
        refine ⟨_, h4, fun F B w0 m n w N a H ht => ?_⟩
        have hc : cap.toList.map a.eval = [] := by
         have := hvs ht
         cases hg : cap.toList.map a.eval with
         | nil => rfl
         | cons c cs => rw [hg] at this; exact this.elim
        refine ⟨.func (.method _) #[a.eval _] #[], (VR.of1 rfl).2 ⟨[a.eval _], ⟨(VR.of0 hl).1 (ev_ok hv ht), trivial⟩, rfl⟩, ?_⟩
        simp only [execOp, ho, Instr.makeFunc, Sem.run_bind, Sem.run_pure, Result.andThen_ok]
        congr 3 <;> first | rfl | (apply Array.toList_inj.1; simp [hc]; done) | (apply Array.toList_inj.1; simp; done) | exact hc
      · exact h2.elim
    · exact h2.elim
  · exact h2.elim
 case nilCheck x =>
  obtain ⟨v, hv, h2⟩ := onS_ok h
  split at h2
  · refine ⟨_, h2, fun F B w0 m n w N a H ht => ⟨a.eval x, ev_ok hv ht, ?_⟩⟩
    obtain ⟨b, _, e⟩ := VR.ptr (ev_ok hv ht)
    simp [execOp, ho, e]
  · refine ⟨_, h2, fun F B w0 m n w N a H ht => ⟨a.eval x, ev_ok hv ht, ?_⟩⟩
    obtain ⟨f2, c2, e⟩ := VR.func (ev_ok hv ht)
    simp [execOp, ho, e]
  · refine ⟨_, h2, fun F B w0 m n w N a H ht => ⟨a.eval x, ev_ok hv ht, ?_⟩⟩
    have hv' := (VR.of0 rfl).1 (ev_ok hv ht)
    rename_i ty u
    have : ∃ t2 u2, a.eval x = .iface t2 u2 := by
     unfold V0 at hv'
     rw [show Go.Proofs.YtelolcagncgfpaaGreat.mark (.iface ty u) = none from rfl] at hv'
     dsimp only at hv'
     split at hv'
     · exact ⟨_, _, hv'⟩
     · rename_i l g e
       obtain ⟨l', _, e2⟩ := hv'
       unfold ref0 at e
       split at e
       · rename_i heq; cases heq
       · rename_i heq; cases heq
       · rename_i heq; cases heq; simp at e; obtain ⟨rfl, rfl⟩ := e; exact ⟨_, _, e2⟩
       · rename_i heq; cases heq
       · rename_i heq; cases heq; simp at e; obtain ⟨rfl, rfl⟩ := e; exact ⟨_, _, e2⟩
       · cases e
    obtain ⟨t2, u2, e⟩ := this
    simp [execOp, ho, e]
  · rename_i s ty ad
    obtain ⟨hA, h2⟩ := h2
    refine ⟨_, h2, fun F B w0 m n w N a H ht => ⟨a.eval x, ev_ok hv ht, ?_⟩⟩
    obtain ⟨l', hl, e⟩ := (VR.of1 rfl).1 (ev_ok hv ht)
    match l', hl with
    | [c], ⟨hc, _⟩ =>
     obtain ⟨b, hb, ec⟩ : ∃ b, A0 m ad b ∧ c = .iface ty (.pointer (some b)) := hc
     subst ec
     simp only [execOp, ho, e]
     have h0 : ((#[Value.iface ty (Value.pointer (some b))] : Array Value)[0]? : Option Value) = some (Value.iface ty (Value.pointer (some b))) := rfl
     simp only [h0]
     simp [Sem.run_bind, run_program, Result.andThen_ok, hA.run b w]
  · exact h2.elim
 case call c =>
  obtain ⟨callee, args, ts⟩ := c
  cases callee <;> dsimp only at h <;> first | exact h.elim | skip
  rename_i b
  obtain ⟨vs, h2, hvs⟩ := evL_ok h
  have args1 : ∀ {m : BM} {N : Nat} {a : Act} {v : Value}, vs = [v] → TRel m N t a → ∃ c, args.map a.eval = #[c] ∧ VR m v c := by
   intro m N a v e ht
   have := hvs ht
   subst e
   generalize hg : args.toList.map a.eval = cs at this
   match cs, this with
   | [c], ⟨hc, _⟩ => exact ⟨c, Array.toList_inj.1 (by simpa using hg), hc⟩
  have args2 : ∀ {m : BM} {N : Nat} {a : Act} {v u : Value}, vs = [v, u] → TRel m N t a → ∃ c d, args.map a.eval = #[c, d] ∧ VR m v c ∧ VR m u d := by
   intro m N a v u e ht
   have := hvs ht
   subst e
   generalize hg : args.toList.map a.eval = cs at this
   match cs, this with
   | [c, d], ⟨hc, hd, _⟩ => exact ⟨c, d, Array.toList_inj.1 (by simpa using hg), hc, hd⟩
  unfold vcBuiltin at h2
  split at h2
  · obtain ⟨u, hk, hr⟩ := vcLen_ok (hp := hp) (ty := o.type) hT h2
    refine ⟨u, hk, fun F B w0 m n w N a H ht => ?_⟩
    obtain ⟨c, e, hc⟩ := args1 rfl ht
    obtain ⟨d, hd, hr⟩ := hr F B w0 m n w [c] H ⟨hc, trivial⟩
    exact ⟨d, hd, by simp only [execOp, ho, resolve, Sem.run_bind, Sem.run_pure, Result.andThen_ok, invoke, builtin, e]; erw [hr]; rfl⟩
  · obtain ⟨u, hk, hr⟩ := vcCap_ok (hp := hp) (ty := o.type) hT h2
    refine ⟨u, hk, fun F B w0 m n w N a H ht => ?_⟩
    obtain ⟨c, e, hc⟩ := args1 rfl ht
    obtain ⟨d, hd, hr⟩ := hr F B w0 m n w [c] H ⟨hc, trivial⟩
    exact ⟨d, hd, by simp only [execOp, ho, resolve, Sem.run_bind, Sem.run_pure, Result.andThen_ok, invoke, builtin, e]; erw [hr]; rfl⟩
  · obtain ⟨u, hk, hr⟩ := vcMin_ok (P := P) (hp := hp) ts o.type h2
    refine ⟨u, hk, fun F B w0 m n w N a H ht => ?_⟩
    obtain ⟨c, c2, e, hc, hc2⟩ := args2 rfl ht
    obtain ⟨d, hd, hr⟩ := hr F B w0 m n w [c, c2] H ⟨hc, hc2, trivial⟩
    exact ⟨d, hd, by simp only [execOp, ho, resolve, Sem.run_bind, Sem.run_pure, Result.andThen_ok, invoke, builtin, e]; erw [hr]; rfl⟩
  · obtain ⟨u, hk, hr⟩ := vcMax_ok (P := P) (hp := hp) ts o.type h2
    refine ⟨u, hk, fun F B w0 m n w N a H ht => ?_⟩
    obtain ⟨c, c2, e, hc, hc2⟩ := args2 rfl ht
    obtain ⟨d, hd, hr⟩ := hr F B w0 m n w [c, c2] H ⟨hc, hc2, trivial⟩
    exact ⟨d, hd, by simp only [execOp, ho, resolve, Sem.run_bind, Sem.run_pure, Result.andThen_ok, invoke, builtin, e]; erw [hr]; rfl⟩
  · exact h2.elim
end Go.Proofs.YtelolcagncgfpaaGreat
