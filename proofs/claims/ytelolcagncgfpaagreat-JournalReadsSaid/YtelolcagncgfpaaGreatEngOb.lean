/- A generator of conditions for a walk, part 8b: maps that are made and written. No program in sight. -/
import Derived.Test.YtelolcagncgfpaaGreatEngH
import Derived.Carry
namespace Go.Proofs.YtelolcagncgfpaaGreat
open Go.RowKit Go.MapKept
set_option linter.unusedSimpArgs false
set_option linter.unusedVariables false
structure PutOb (ks vs : List Value) (k v : Value) (ks' vs' : List Value) : Prop where
 kinds : ∀ u ∈ ks, keyLike k u = true
 len : ks.length = vs.length
 old : ∀ j, FirstAt ks k j → ks' = ks ∧ vs' = vs.set j v
 new : (∀ u ∈ ks, u ≠ k) → ks' = ks ++ [k] ∧ vs' = vs ++ [v]
def vcMapUp (T : Tab) (h : HP) (mT : TypeId) (m k v : Value) (K : HP → Prop) : Prop :=
 match m with
 | .map (some i) => onS (lkH h i) fun it => match it with
  | .mp ks vs => onS (lkR T mT) fun r => match r.ty with
   | .map kt _ => onS (lkR T kt) fun rk => chk (keyTy rk.ty k) <| forceV v fun v => chk (leaf v) <| ∃ ks' vs', PutOb ks vs k v ks' vs' ∧ upF h i (.mp ks' vs') K
   | _ => False
  | _ => False
 | _ => False
theorem modify_key {l : List MapEntry} {j : Nat} {e : MapEntry} {k v : Value} (h : l[j]? = some e) (hk : e.key = k) : (l.modify j fun e => { e with key := k, val := v }).map (fun e => e.key) = l.map fun e => e.key := by
 apply List.ext_getElem?
 intro i
 rw [List.getElem?_map, List.getElem?_map, List.getElem?_modify]
 by_cases hij : j = i
 · subst hij; rw [h]; simp [hk]
 · simp [hij]
theorem modify_val {l : List MapEntry} {j : Nat} {k v : Value} : (l.modify j fun e => { e with key := k, val := v }).map (fun e => e.val) = (l.map fun e => e.val).set j v := by
 apply List.ext_getElem?
 intro i
 rw [List.getElem?_map, List.getElem?_modify, List.getElem?_set, List.getElem?_map]
 by_cases hij : j = i
 · subst hij
   rcases Nat.lt_or_ge j l.length with hj | hj
   · simp [hj]
   · simp [List.getElem?_eq_none hj, Nat.not_lt.2 hj]
 · simp [hij]
theorem LR.snoc {R : Value → Value → Prop} {l l' : List Value} {v c : Value} (h : LR R l l') (hv : R v c) : LR R (l ++ [v]) (l' ++ [c]) := LR.append h ⟨hv, trivial⟩
theorem vcMapUp_ok {P : Program} {T : Tab} (hT : TabOk P T) {t : TM} {h : HP} {n : Nat} {o : Oper} {mT : TypeId} {x y z : Operand} (ho : o.op = .mapUpdate mT x y z) {vm k v : Value} (hx : ev t x = some vm) (hy : ev t y = some k) (hz : ev t z = some v)
 {K : Value → HP → Nat → Prop} (hv : vcMapUp T h mT vm k v fun h => K undef h n) : EOk P t h n o K := by
 intro F B w0 m w N a Q H ht
 unfold vcMapUp at hv
 split at hv
 · rename_i i
   obtain ⟨it, hit, h2⟩ := onS_ok hv
   split at h2
   · rename_i ks vs
     obtain ⟨r, hr, h3⟩ := onS_ok h2
     obtain ⟨okr, rfl⟩ := hT.look hr
     have hd := okr.desc
     split at h3
     · rename_i kt et hty
       rw [hty] at hd
       obtain ⟨rk, hrk, h4⟩ := onS_ok h3
       obtain ⟨okk, rfl⟩ := hT.look hrk
       obtain ⟨hkt, h5⟩ := chk_ok h4
       obtain ⟨h6, hn1, _⟩ := forceV_ok h5
       obtain ⟨hlf, ks', vs', ob, hK⟩ := chk_ok h6
       replace hK := upF_ok hK
       obtain ⟨d, hdk, hik, hil⟩ := keyTy_ok okk hkt
       have hkf : flatR k = true := by cases k <;> first | rfl | (cases e : rk.ty <;> rw [e] at hkt <;> cases hkt)
       obtain ⟨g, s, hm, hs, ex⟩ := (ev_ok hx ht).mapv
       have ey := eval_flat hy hkf ht
       obtain ⟨g2, s2, hm2, okI⟩ := H.dom i _ hit
       obtain ⟨rfl, rfl⟩ := H.fn _ _ _ _ _ hm hm2
       obtain ⟨rfl, hfen, E, clk, ⟨hb, hsm⟩, hks, hvs⟩ := okI
       have hvz : V1 m v (a.eval z) := (VR.of1 hn1).1 (ev_ok hz ht)
       have done : ∀ (E' : Array MapEntry) (clk' : Nat), (Instr.mapUpdate r.t (.map (some g)) k (a.eval z)).run P w = .ok () { w with heap := w.heap.setIfInBounds g (.map E' clk') } → MapKept.Stamped E' clk' → E'.toList.map (fun e => e.key) = ks' → LR (V1 m) vs' (E'.toList.map fun e => e.val) →
        o.wp P a w (fun a' w' => ∃ m' v c h' n', m.le m' ∧ a' = a.put o.dst c ∧ VR m' v c ∧ HRel F B w0 m' h' n' w' ∧ K v h' n') Q := by
        intro E' clk' hrun hst' h1 h2
        unfold Oper.wp
        have hex : (execOp a.eval o).run P w = .ok .skip { w with heap := w.heap.setIfInBounds g (.map E' clk') } := by
         simp only [execOp, ho, ex, ey, Sem.run_bind]
         erw [hrun]; rfl
        rw [hex]
        obtain ⟨hs1, hs2⟩ := heap_set (o' := .map E' clk') hb
        refine ⟨m, _, _, _, _, BM.le_refl m, rfl, VR.same rfl, H.upd hit rfl rfl rfl rfl hm hfen (it' := .mp ks' vs') (fun q hq => hs2 q hq) (by simp) rfl rfl rfl ?_, hK⟩
        exact ⟨rfl, hfen, E', clk', ⟨hs1, hst'⟩, h1, h2⟩
       rcases find_where hks hik (fun u hu => hil u (ob.kinds u hu)) with ⟨q1, q2⟩ | ⟨j, e, q1, q2, q3, q4⟩
       · obtain ⟨rfl, rfl⟩ := ob.new q2
         refine done (E.push { key := k, val := a.eval z, born := clk }) (clk + 1) ?_ (MapKept.stamped_push hsm fun x hx e => q2 x.key (hks ▸ List.mem_map_of_mem hx) e) ?_ ?_
         · simp only [Instr.mapUpdate, Sem.run_bind, run_underlying (show P.underlying r.t = _ from hd), Result.andThen_ok, MapKept.run_getObj_map hb, Sem.run_pure, MapKept.run_checkKey hdk hik, MapKept.run_findKey hdk q1, MapKept.run_setObj_map _ hb]
         · rw [Array.toList_push, List.map_append, hks]; rfl
         · rw [Array.toList_push, List.map_append]; exact hvs.snoc hvz
       · obtain ⟨rfl, rfl⟩ := ob.old j q4
         have hEj : E[j]? = some e := by rw [← Array.getElem?_toList]; exact q2
         have hst : (Instr.keyThatStays (((E[j]?).map (·.key)).getD k) k).run P w = .ok k w := by
          rw [hEj, Option.map_some, Option.getD_some, q3]
          unfold Instr.keyThatStays
          rw [if_pos (sameBits_self hik 10000)]; rfl
         refine done (E.modify j fun e => { e with key := k, val := a.eval z }) clk ?_ (MapKept.stamped_modify hsm j _ (fun _ _ => rfl) (fun e' _ he' => by rw [hEj] at he'; cases he'; exact q3.symm)) ?_ ?_
         · simp only [Instr.mapUpdate, Sem.run_bind, run_underlying (show P.underlying r.t = _ from hd), Result.andThen_ok, MapKept.run_getObj_map hb, Sem.run_pure, MapKept.run_checkKey hdk hik, MapKept.run_findKey hdk q1, hst, MapKept.run_setObj_map _ hb]
         · rw [Array.toList_modify, modify_key q2 q3]
           exact hks
         · rw [Array.toList_modify, modify_val]
           exact hvs.set j hvz
     · exact h3.elim
   · exact h2.elim
 · exact hv.elim
structure DelOb (ks vs : List Value) (k : Value) (ks' vs' : List Value) : Prop where
 kinds : ∀ u ∈ ks, keyLike k u = true
 old : ∀ j, FirstAt ks k j → ks' = ks.eraseIdx j ∧ vs' = vs.eraseIdx j
 new : (∀ u ∈ ks, u ≠ k) → ks' = ks ∧ vs' = vs
def vcDelete (T : Tab) (h : HP) (ts : Array TypeId) (vs : List Value) (K : HP → Prop) : Prop :=
 match ts, vs with
 | ⟨mT :: _⟩, [.map (some i), k] => onS (lkH h i) fun it => match it with
  | .mp ks vs => onS (lkR T mT) fun r => match r.ty with
   | .map kt _ => onS (lkR T kt) fun rk => chk (keyTy rk.ty k) <| ∃ ks' vs', DelOb ks vs k ks' vs' ∧ upF h i (.mp ks' vs') K
   | _ => False
  | _ => False
 | _, _ => False
theorem LR.eraseIdx {R : Value → Value → Prop} : ∀ {l l' : List Value} (j : Nat), LR R l l' → LR R (l.eraseIdx j) (l'.eraseIdx j)
 | [], [], _, _ => by simp [LR]
 | _ :: _, _ :: _, 0, x => x.2
 | _ :: l, _ :: l', j + 1, x => ⟨x.1, LR.eraseIdx (l := l) (l' := l') j x.2⟩
theorem map_eraseIdx {α β : Type} (f : α → β) : ∀ (l : List α) (j : Nat), (l.eraseIdx j).map f = (l.map f).eraseIdx j
 | [], _ => by simp
 | _ :: _, 0 => rfl
 | _ :: l, j + 1 => by simp [map_eraseIdx f l j]
theorem vcDelete_ok {P : Program} {T : Tab} (hT : TabOk P T) {t : TM} {h : HP} {n : Nat} {o : Oper} {ts : Array TypeId} {args : Array Operand} (ho : o.op = .call { callee := .builtin .delete, args := args, argTypes := ts })
 {K : Value → HP → Nat → Prop} (hv : evL t args.toList fun vs => vcDelete T h ts vs fun h => K (.tuple #[]) h n) : EOk P t h n o K := by
 intro F B w0 m w N a Q H ht
 obtain ⟨vs0, h2, hvs0⟩ := evL_ok hv
 have hvs := hvs0 ht
 unfold vcDelete at h2
 split at h2
 · rename_i mT tr i k
   obtain ⟨it, hit, h3⟩ := onS_ok h2
   split at h3
   · rename_i ks vs
     obtain ⟨r, hr, h4⟩ := onS_ok h3
     obtain ⟨okr, rfl⟩ := hT.look hr
     have hd := okr.desc
     split at h4
     · rename_i kt et hty
       rw [hty] at hd
       obtain ⟨rk, hrk, h5⟩ := onS_ok h4
       obtain ⟨okk, rfl⟩ := hT.look hrk
       obtain ⟨hkt, ks', vs', ob, hK⟩ := chk_ok h5
       replace hK := upF_ok hK
       obtain ⟨d, hdk, hik, hil⟩ := keyTy_ok okk hkt
       have hkf : flatR k = true := by cases k <;> first | rfl | (cases e : rk.ty <;> rw [e] at hkt <;> cases hkt)
       obtain ⟨g, s, hargs, hm, hs⟩ : ∃ g s, args.map a.eval = #[.map (some g), k] ∧ m i g s ∧ s ≠ nilS := by
        generalize hg : args.toList.map a.eval = l at hvs
        match l, hvs with
        | [c, d], ⟨hc, hd, _⟩ =>
         obtain ⟨g, s, hm, hs, rfl⟩ := VR.mapv hc
         exact ⟨g, s, Array.toList_inj.1 (by rw [← (VR.flat hkf).1 hd]; simpa using hg), hm, hs⟩
       obtain ⟨g2, s2, hm2, okI⟩ := H.dom i _ hit
       obtain ⟨rfl, rfl⟩ := H.fn _ _ _ _ _ hm hm2
       obtain ⟨rfl, hfen, E, clk, ⟨hb, hsm⟩, hks, hvs⟩ := okI
       have done : ∀ (E' : Array MapEntry), (Builtin.delete_ ((r.t :: tr).toArray) o.type #[.map (some g), k]).run P w = .ok (.tuple #[]) { w with heap := w.heap.setIfInBounds g (.map E' clk) } → MapKept.Stamped E' clk → E'.toList.map (fun e => e.key) = ks' → LR (V1 m) vs' (E'.toList.map fun e => e.val) →
        o.wp P a w (fun a' w' => ∃ m' v c h' n', m.le m' ∧ a' = a.put o.dst c ∧ VR m' v c ∧ HRel F B w0 m' h' n' w' ∧ K v h' n') Q := by
        intro E' hrun hst' h1 h2
        unfold Oper.wp
        have hex : (execOp a.eval o).run P w = .ok (.value (.tuple #[])) { w with heap := w.heap.setIfInBounds g (.map E' clk) } := by
         simp only [execOp, ho, resolve, Sem.run_bind, Sem.run_pure, Result.andThen_ok, invoke, builtin, hargs]
         erw [hrun]; rfl
        rw [hex]
        obtain ⟨hs1, hs2⟩ := heap_set (o' := .map E' clk) hb
        refine ⟨m, _, _, _, _, BM.le_refl m, rfl, VR.same rfl, H.upd hit rfl rfl rfl rfl hm hfen (it' := .mp ks' vs') (fun q hq => hs2 q hq) (by simp) rfl rfl rfl ?_, hK⟩
        exact ⟨rfl, hfen, E', clk, ⟨hs1, hst'⟩, h1, h2⟩
       rcases find_where hks hik (fun u hu => hil u (ob.kinds u hu)) with ⟨q1, q2⟩ | ⟨j, e, q1, q2, q3, q4⟩
       · obtain ⟨rfl, rfl⟩ := ob.new q2
         refine done E ?_ hsm hks hvs
         simp [Builtin.delete_, Sem.run_bind, run_underlying (show P.underlying r.t = _ from hd), MapKept.run_getObj_map hb, MapKept.run_checkKey hdk hik, MapKept.run_findKey hdk q1, MapKept.run_setObj_map _ hb]
       · obtain ⟨rfl, rfl⟩ := ob.old j q4
         refine done (E.eraseIdxIfInBounds j) ?_ (MapKept.stamped_erase hsm j) ?_ ?_
         · simp [Builtin.delete_, Sem.run_bind, run_underlying (show P.underlying r.t = _ from hd), MapKept.run_getObj_map hb, MapKept.run_checkKey hdk hik, MapKept.run_findKey hdk q1, MapKept.run_setObj_map _ hb]
         · rw [Array.toList_eraseIdxIfInBounds, map_eraseIdx, hks]
         · rw [Array.toList_eraseIdxIfInBounds, map_eraseIdx]
           exact hvs.eraseIdx j
     · exact h4.elim
   · exact h3.elim
 · exact h2.elim
def vcMakeMap (h : HP) (n : Nat) (K : Value → HP → Nat → Prop) : Prop := K (.map (some n)) ((n, .mp [] []) :: h) (n + 1)
theorem vcMakeMap_ok {P : Program} {t : TM} {h : HP} {n : Nat} {o : Oper} {ty : TypeId} (ho : o.op = .makeMap ty none) {K : Value → HP → Nat → Prop} (hv : vcMakeMap h n K) : EOk P t h n o K := by
 intro F B w0 m w N a Q H ht
 unfold Oper.wp
 have hex : (execOp a.eval o).run P w = .ok (.value (.map (some w.heap.size))) (w.alloc (.map #[] 0)) := by
  simp only [execOp, ho, Option.map_none, Sem.run_bind]
  erw [run_makeMap]; rfl
 rw [hex]
 refine ⟨m.add n w.heap.size, _, _, _, _, BM.le_add _ _ _, rfl, VR.map_of (.inr ⟨rfl, rfl, rfl⟩), H.push ((Below.refl _ w).alloc (Nat.le_refl _) _) (Nat.le_refl _) (it := .mp [] []) ⟨rfl, .inl H.base', #[], 0, ⟨heap_alloc_new w _, MapKept.stamped_empty 0⟩, rfl, trivial⟩ rfl, hv⟩
end Go.Proofs.YtelolcagncgfpaaGreat
