/- A generator of conditions for a walk, part 7: operations that do something. No program in sight. -/
import Derived.Test.YtelolcagncgfpaaGreatEngF
namespace Go.Proofs.YtelolcagncgfpaaGreat
open Go.RowKit
set_option linter.unusedSimpArgs false
set_option linter.unusedVariables false
abbrev FnOk (P : Program) (f : FuncId) : Prop := ∀ (args : Array Value) (w : World), (callFunc f args).run P w = .ok (.enter f args) w
structure CallOb (P : Program) (f : FuncId) (args : List Value) (h : HP) (n : Nat) (K : Value → HP → Nat → Prop) : Prop where
 fn : FnOk P f
 run : ∀ F B w0 m w cs, HRel F B w0 m h n w → LR (VR m) args cs → Calls P f cs.toArray w fun e w' => ∃ m' v c h' n', e = .returned c ∧ m.le m' ∧ VR m' v c ∧ HRel F B w0 m' h' n' w' ∧ K v h' n'
def EOk (P : Program) (t : TM) (hp : HP) (n : Nat) (o : Oper) (K : Value → HP → Nat → Prop) : Prop :=
 ∀ F B w0 m w N a Q, HRel F B w0 m hp n w → TRel m N t a →
  o.wp P a w (fun a' w' => ∃ m' v c h' n', m.le m' ∧ a' = a.put o.dst c ∧ VR m' v c ∧ HRel F B w0 m' h' n' w' ∧ K v h' n') Q
def newP (n : Nat) : Value := .pointer (some ⟨n, 0, none⟩)
def newS (n len cap : Nat) : Value := .slice (some ⟨n, 0, none⟩) len cap
def cellsOfV (v : Value) (K : List Value → Prop) : Prop :=
 match v with
 | .agg vs => forceL vs.toList K
 | v => forceV v fun v => K [v]
theorem cellsOfV_ok {v : Value} {K : List Value → Prop} (h : cellsOfV v K) : ∃ l, K l ∧ (∀ m c, VR m v c → ∃ l', LR (V1 m) l l' ∧ c.cells = l'.toArray) := by
 by_cases hagg : ∃ vs, v = .agg vs
 · obtain ⟨vs, rfl⟩ := hagg
   obtain ⟨hk, hl⟩ := forceL_ok (l := vs.toList) h
   refine ⟨_, hk, fun m c hc => ?_⟩
   obtain ⟨l', hl', rfl⟩ := hc.agg
   exact ⟨l', LR.to1 (fun u hu => (hl u hu).1) hl', rfl⟩
 · have e : cellsOfV v K = forceV v fun v => K [v] := by cases v <;> first | rfl | exact absurd ⟨_, rfl⟩ hagg
   rw [e] at h
   obtain ⟨hk, hn, h1⟩ := forceV_ok h
   refine ⟨_, hk, fun m c hc => ?_⟩
   have hv := (VR.of1 hn).1 hc
   have := V1.one h1 hv
   refine ⟨[c], ⟨hv, trivial⟩, ?_⟩
   cases c <;> first | rfl | cases this
theorem HRel.pushBlk {F : Nat → Prop} {B : Nat} {w0 : World} {m : BM} {h : HP} {n : Nat} {w : World} (H : HRel F B w0 m h n w) (ty : TypeId) {l l' : List Value} (hl : LR (V1 m) l l') :
 HRel F B w0 (m.add n w.heap.size) ((n, .own ty l) :: h) (n + 1) (w.alloc (.cells l'.toArray ty)) :=
 H.push ((Below.refl _ w).alloc (Nat.le_refl _) _) (Nat.le_refl _) ⟨rfl, .inl H.base', l', hl.mono fun _ _ => V1.mono (BM.le_add _ _ _), Blk.new w _ _⟩ rfl
theorem HRel.pushRow {F : Nat → Prop} {B : Nat} {w0 : World} {m : BM} {h : HP} {n : Nat} {w : World} (H : HRel F B w0 m h n w) (ty : TypeId) (size cap : Nat) {l l' rest : List Value} (hl : LR (V1 m) l l')
 (hs : l.length + rest.length = cap * size) (hc : cap ≤ maxLen) :
 HRel F B w0 (m.add n w.heap.size) ((n, .row ty size cap l) :: h) (n + 1) (w.alloc (.cells (l' ++ rest).toArray ty)) :=
 H.push ((Below.refl _ w).alloc (Nat.le_refl _) _) (Nat.le_refl _) ⟨rfl, .inl H.base', hc, l', _, hl.mono fun _ _ => V1.mono (BM.le_add _ _ _), heap_alloc_new w _,
  by simp [hl.length]; omega, by simp, by simp⟩ rfl
theorem VR.newP (m : BM) (n g : Nat) : VR (m.add n g) (newP n) (.pointer (some ⟨g, 0, none⟩)) := VR.ptr_of (A0.in (.inr ⟨rfl, rfl, rfl⟩) zero_ne_nilS)
theorem VR.newS (m : BM) (n g len cap : Nat) : VR (m.add n g) (newS n len cap) (.slice (some ⟨g, 0, none⟩) len cap) := VR.slc_of (A0.in (.inr ⟨rfl, rfl, rfl⟩) zero_ne_nilS) _ _ none rfl
def vcAlloc (T : Tab) (h : HP) (n : Nat) (ty : TypeId) (K : Value → HP → Nat → Prop) : Prop :=
 onS (lkR T ty) fun r => match flatR r.zero with | true => cellsOfV r.zero fun l => K (newP n) ((n, .own ty l) :: h) (n + 1) | false => False
def vcBox (h : HP) (n : Nat) (ty : TypeId) (v : Value) (K : Value → HP → Nat → Prop) : Prop :=
 cellsOfV v fun l => K (newP n) ((n, .own ty l) :: h) (n + 1)
theorem vcAlloc_ok {P : Program} {T : Tab} (hT : TabOk P T) {t : TM} {h : HP} {n : Nat} {o : Oper} {ty : TypeId} (ho : o.op = .alloc ty) {K : Value → HP → Nat → Prop} (hv : vcAlloc T h n ty K) : EOk P t h n o K := by
 intro F B w0 m w N a Q H ht
 obtain ⟨r, hr, h2⟩ := onS_ok hv
 obtain ⟨ok, rfl⟩ := hT.look hr
 split at h2
 · rename_i hf
   obtain ⟨l, hk, hl⟩ := cellsOfV_ok h2
   obtain ⟨l', hl', e⟩ := hl m r.zero (VR.same hf)
   have hr : (execOp a.eval o).run P w = .ok (.value (.pointer (some ⟨w.heap.size, 0, none⟩))) (w.alloc (.cells l'.toArray r.t)) := by
    simp [execOp, ho, Instr.alloc, ok.zeroValue, newVar, newRow, e]
   unfold Oper.wp
   rw [hr]
   exact ⟨_, _, _, _, _, BM.le_add _ _ _, rfl, VR.newP m n _, H.pushBlk r.t hl', hk⟩
 · exact h2.elim
theorem vcBox_ok {P : Program} {t : TM} {h : HP} {n : Nat} {o : Oper} {ty : TypeId} {x : Operand} (ho : o.op = .box ty x) {v : Value} (hx : ev t x = some v) {K : Value → HP → Nat → Prop} (hv : vcBox h n ty v K) : EOk P t h n o K := by
 intro F B w0 m w N a Q H ht
 obtain ⟨l, hk, hl⟩ := cellsOfV_ok hv
 obtain ⟨l', hl', e⟩ := hl m _ (ev_ok hx ht)
 have hr : (execOp a.eval o).run P w = .ok (.value (.pointer (some ⟨w.heap.size, 0, none⟩))) (w.alloc (.cells l'.toArray ty)) := by
  simp [execOp, ho, Instr.box, newVar, newRow, e]
 unfold Oper.wp
 rw [hr]
 exact ⟨_, _, _, _, _, BM.le_add _ _ _, rfl, VR.newP m n _, H.pushBlk ty hl', hk⟩
theorem Itm.put_of {it : Itm} {o : Nat} {vs : List Value} {it' : Itm} (h : it.put o vs = some it') : True := trivial
theorem vcStore_ok {P : Program} {T : Tab} (hT : TabOk P T) {t : TM} {h : HP} {n : Nat} {o : Oper} {ty : TypeId} {x y : Operand} (ho : o.op = .store ty x y) {p v : Value} (hx : ev t x = some p) (hy : ev t y = some v)
 {K : Value → HP → Nat → Prop} (hv : vcStore T h ty p v fun h => K undef h n) : EOk P t h n o K := by
 intro F B w0 m w N a Q H ht
 unfold vcStore at hv
 split at hv
 · rename_i b off
   obtain ⟨it, hit, h2⟩ := onS_ok hv
   obtain ⟨r, hr, h3⟩ := onS_ok h2
   obtain ⟨ok, rfl⟩ := hT.look hr
   obtain ⟨c, hcA, ec⟩ := (ev_ok hx ht).ptr
   obtain ⟨g, s, hm, hsn, rfl⟩ := hcA.old
   have hyv := ev_ok hy ht
   have fin : ∀ (vs cs : List Value) (it' : Itm), (a.eval y).cells.toList = cs → cs.length = r.size → it.put off vs = some it' → off + vs.length ≤ it.cells.length → LR (V1 m) vs cs → (∀ v ∈ vs, v.oneCell' = true) → K undef (upH h b it') n →
    o.wp P a w (fun a' w' => ∃ m' v c h' n', m.le m' ∧ a' = a.put o.dst c ∧ VR m' v c ∧ HRel F B w0 m' h' n' w' ∧ K v h' n') Q := by
    intro vs cs it' e1 e2 hp hl hv h1 hk
    obtain ⟨w', hr, H'⟩ := H.store (P := P) hit hm hsn hp hl hv h1
    have : (execOp a.eval o).run P w = .ok .skip w' := by
     have hsz : (a.eval y).cells.size = r.size := by rw [← Array.length_toList, e1, e2]
     simp only [execOp, ho, ec, Instr.storeAt, Instr.sureAddr, Sem.run_bind, Sem.run_pure, Result.andThen_ok, storeVar, ok.sizeOf, hsz, ne_eq, not_true_eq_false, if_false, e1]
     rw [hr]; rfl
    unfold Oper.wp
    rw [this]
    exact ⟨m, undef, undef, _, _, BM.le_refl m, rfl, VR.same rfl, H', hk⟩
   split at h3
   · obtain ⟨h4, h3⟩ := chk_ok h3
     obtain ⟨h5, h6⟩ := chk_ok h3
     replace h4 := Nat.le_of_ble_eq_true h4
     replace h5 := Nat.eq_of_beq_eq_true h5
     obtain ⟨h7, h8⟩ := forceL_ok h6
     obtain ⟨it', hp, hk⟩ := onS_ok h7
     replace hk := upF_ok (forceI_ok hk)
     obtain ⟨l', hl', e⟩ := hyv.agg
     exact fin _ l' it' (by rw [e]; rfl) (by rw [hl'.length, h5]) hp (by rw [h5]; exact h4) (LR.to1 (fun u hu => (h8 u hu).1) hl') (fun u hu => (h8 u hu).2) hk
   · obtain ⟨h4, h3⟩ := chk_ok h3
     obtain ⟨h5, h6⟩ := chk_ok h3
     replace h4 : off + 1 ≤ it.cells.length := Nat.le_of_ble_eq_true h4
     replace h5 := Nat.eq_of_beq_eq_true h5
     obtain ⟨h7, hn, h1⟩ := forceV_ok h6
     obtain ⟨it', hp, hk⟩ := onS_ok h7
     replace hk := upF_ok (forceI_ok hk)
     have hv1 := (VR.of1 hn).1 hyv
     have h1c := V1.one h1 hv1
     refine fin _ [a.eval y] it' ?_ h5.symm hp (by simp only [List.length_cons, List.length_nil]; omega) ⟨hv1, trivial⟩ (fun u hu => by simp at hu; subst hu; exact h1) hk
     cases e : a.eval y <;> first | rfl | (rw [e] at h1c; cases h1c)
 · exact hv.elim
def vcMake (T : Tab) (h : HP) (n : Nat) (ty : TypeId) (vl vc : Value) (K : Value → HP → Nat → Prop) : Prop :=
 onS (lkR T ty) fun r => match r.ty, vl, vc with
 | .slice e, .int _ l, .int _ c => onS (lkR T e) fun re => match flatR re.zero with
  | true => cellsOfV re.zero fun z => letR re fun size bytes => chk (Nat.beq z.length size) <| ∃ kl kc : Nat, (kl : Int) = l ∧ (kc : Int) = c ∧ kl ≤ kc ∧ bytes * kc ≤ 281474976710656 ∧ kc ≤ 281474976710656 ∧
   K (newS n kl kc) ((n, .row e size kc (List.replicate kl z).flatten) :: h) (n + 1)
  | false => False
 | _, _, _ => False
theorem madeCells_flat (z : List Value) (k : Nat) : (madeCells z.toArray (k * z.length)).toList = (List.replicate k z).flatten := by
 apply List.ext_getElem?
 intro i
 unfold madeCells
 rcases Nat.lt_or_ge i (k * z.length) with h | h
 · have hz : 0 < z.length := by rcases Nat.eq_zero_or_pos z.length with h0 | h0; · rw [h0] at h; simp at h
                                · exact h0
   have : ∀ (k i : Nat), i < k * z.length → (List.replicate k z).flatten[i]? = z[i % z.length]? := by
    intro k
    induction k with
    | zero => intro i h; simp at h
    | succ k ih =>
     intro i h
     rw [List.replicate_succ, List.flatten_cons]
     rcases Nat.lt_or_ge i z.length with h' | h'
     · rw [List.getElem?_append_left h', Nat.mod_eq_of_lt h']
     · rw [List.getElem?_append_right h', ih _ (by rw [Nat.succ_mul] at h; omega), Nat.mod_eq_sub_mod h']
   rw [this k i h]
   have hm := Nat.mod_lt i hz
   simp [h, hm]
 · rw [List.getElem?_eq_none (by simpa using h), List.getElem?_eq_none (by simpa using h)]
theorem vcMake_ok {P : Program} {T : Tab} (hT : TabOk P T) {t : TM} {h : HP} {n : Nat} {o : Oper} {ty : TypeId} {x y : Operand} (ho : o.op = .makeSlice ty x y) {vl vc : Value} (hx : ev t x = some vl) (hy : ev t y = some vc)
 {K : Value → HP → Nat → Prop} (hv : vcMake T h n ty vl vc K) : EOk P t h n o K := by
 intro F B w0 m w N a Q H ht
 obtain ⟨r, hr, h2⟩ := onS_ok hv
 obtain ⟨ok, rfl⟩ := hT.look hr
 have hd := ok.desc
 split at h2
 · rename_i e ka l kb c hty
   rw [hty] at hd
   obtain ⟨re, hre, h3⟩ := onS_ok h2
   obtain ⟨oke, rfl⟩ := hT.look hre
   split at h3
   · rename_i hf
     obtain ⟨z, h4, hz⟩ := cellsOfV_ok h3
     rw [letR_eq] at h4
     obtain ⟨hzl, kl, kc, rfl, rfl, hlc, hb, hb2, hk⟩ := chk_ok h4
     replace hzl := Nat.eq_of_beq_eq_true hzl
     obtain ⟨l', hl', e⟩ := hz m re.zero (VR.same hf)
     obtain ⟨i, hi, hi1, hi2, hi3⟩ := oke.info'
     have e0 : l'.length = re.size := by rw [hl'.length, hzl]
     have hrun := run_make (P := P) w r.t re.t i re.zero hd hi hi1 ka kb (kl : Int) (kc : Int) (by omega) (by omega) (by rw [hi3]; omega) (by omega)
     have hcells : madeCells re.zero.cells (((kc : Nat) : Int).toNat * i.size) = ((List.replicate kl l').flatten ++ (List.replicate (kc - kl) l').flatten).toArray := by
      rw [e, hi2, ← e0, Int.toNat_natCast]
      apply Array.toList_inj.1
      rw [madeCells_flat, ← List.flatten_append, List.replicate_append_replicate, show kl + (kc - kl) = kc by omega]
     rw [hcells] at hrun
     simp only [Int.toNat_natCast] at hrun
     have : (execOp a.eval o).run P w = .ok (.value (.slice (some ⟨w.heap.size, 0, none⟩) kl kc)) (w.alloc (.cells ((List.replicate kl l').flatten ++ (List.replicate (kc - kl) l').flatten).toArray re.t)) := by
      simp only [execOp, ho, (ev_ok hx ht).int, (ev_ok hy ht).int, Sem.run_bind, hrun, Result.andThen_ok, Sem.run_pure]
     unfold Oper.wp
     rw [this]
     have hrep : ∀ k, LR (V1 m) (List.replicate k z).flatten (List.replicate k l').flatten := by
      intro k
      induction k with
      | zero => trivial
      | succ k ih => rw [List.replicate_succ, List.replicate_succ, List.flatten_cons, List.flatten_cons]; exact LR.append hl' ih
     have len : ∀ (k : Nat) (q : List Value), (List.replicate k q).flatten.length = k * q.length := by
      intro k q; simp [List.length_flatten]
     refine ⟨_, _, _, _, _, BM.le_add _ _ _, rfl, VR.newS m n _ _ _, H.pushRow re.t re.size kc (hrep kl) (rest := (List.replicate (kc - kl) l').flatten) ?_ (by unfold maxLen; omega), hk⟩
     rw [len, len, hzl, e0, ← Nat.add_mul, show kl + (kc - kl) = kc by omega]
   · exact h3.elim
 · exact h2.elim
def vcBytes (T : Tab) (h : HP) (n : Nat) (src dst : TypeId) (v : Value) (K : Value → HP → Nat → Prop) : Prop :=
 onS (lkR T src) fun rs => onS (lkR T dst) fun rd => match rs.ty, rd.ty, v with
 | .string, .slice e, .string s => onS (lkR T e) fun re => match re.ty with
  | .int .u8 => ∀ cap, K (newS n s.size cap) ((n, .view ((bytesOf s).map byteV')) :: h) (n + 1)
  | _ => False
 | _, _, _ => False
theorem vcBytes_ok {P : Program} {T : Tab} (hT : TabOk P T) {t : TM} {h : HP} {n : Nat} {o : Oper} {src dst : TypeId} {x : Operand} (ho : o.op = .convert src dst x) {v : Value} (hx : ev t x = some v)
 {K : Value → HP → Nat → Prop} (hv : vcBytes T h n src dst v K) : EOk P t h n o K := by
 intro F B w0 m w N a Q H ht
 obtain ⟨rs, hs, h2⟩ := onS_ok hv
 obtain ⟨rd, hd, h3⟩ := onS_ok h2
 obtain ⟨oks, rfl⟩ := hT.look hs
 obtain ⟨okd, rfl⟩ := hT.look hd
 have ds := oks.desc
 have dd := okd.desc
 split at h3
 · rename_i e s hty1 hty2
   rw [hty1] at ds
   rw [hty2] at dd
   obtain ⟨re, hre, h4⟩ := onS_ok h3
   obtain ⟨oke, rfl⟩ := hT.look hre
   have de := oke.desc
   split at h4
   · rename_i hty3
     rw [hty3] at de
     have hrun := Lib.run_convert_string_bytes w rs.t rd.t re.t s ds dd de
     have hbel := Joins.below_bytesWorld w.heap.size w re.t s (Nat.le_refl _)
     have : (execOp a.eval o).run P w = .ok (.value (.slice (some ⟨w.heap.size, 0, none⟩) s.size (grownCap w s.size 0 re.t))) (Lib.bytesWorld w re.t s) := by
      simp only [execOp, ho, (ev_ok hx ht).str, Sem.run_bind, hrun, Result.andThen_ok, Sem.run_pure]
     unfold Oper.wp
     rw [this]
     refine ⟨_, _, _, _, _, BM.le_add _ _ _, rfl, VR.newS m n _ _ _, H.push (it := .view ((bytesOf s).map byteV')) hbel (Nat.le_refl _) ⟨?_, zero_ne_nilS, (bytesOf s).map byteV', ?_, ?_⟩ rfl, h4 _⟩
     · rw [Lib.bytesWorld_size]; exact Nat.lt_succ_self _
     · exact LR.refl_of fun v hv => by
        obtain ⟨b, _, rfl⟩ := List.mem_map.1 hv
        exact (V1.flat rfl).2 rfl
     · intro j v hj
       rw [List.getElem?_map] at hj
       have hlt : j < (bytesOf s).length := by
        rcases Nat.lt_or_ge j (bytesOf s).length with h | h
        · exact h
        · rw [List.getElem?_eq_none h] at hj; cases hj
       have hlt' : j < s.size := by rwa [bytesOf_length] at hlt
       rw [List.getElem?_eq_getElem hlt] at hj
       cases hj
       rw [sh_zero, Nat.zero_add, Lib.bytesWorld_cell _ _ _ _ hlt', List.getD_eq_getElem?_getD, List.getElem?_eq_getElem (by simpa using hlt')]
       rfl
   · exact h4.elim
 · exact h3.elim
end Go.Proofs.YtelolcagncgfpaaGreat
