/- A generator of conditions for a walk, part 8: literals of structs, arrays and slices; append; calls. No program in sight. -/
import Derived.Test.YtelolcagncgfpaaGreatEngG
namespace Go.Proofs.YtelolcagncgfpaaGreat
open Go.RowKit
set_option linter.unusedSimpArgs false
set_option linter.unusedVariables false
def evParts (t : TM) : List (Nat × Operand) → (List (Nat × List Value) → Prop) → Prop
 | [], K => K []
 | (i, x) :: r, K => onS (ev t x) fun v => cellsOfV v fun l => evParts t r fun ps => K ((i, l) :: ps)
def PR (m : BM) : List (Nat × List Value) → List (Nat × Value) → Prop
 | [], [] => True
 | (i, l) :: ps, (j, c) :: qs => i = j ∧ (∃ l', LR (V1 m) l l' ∧ c.cells = l'.toArray) ∧ PR m ps qs
 | _, _ => False
theorem evParts_ok {t : TM} : ∀ {ps : List (Nat × Operand)} {K : List (Nat × List Value) → Prop}, evParts t ps K →
 ∃ l, K l ∧ ∀ {m : BM} {N : Nat} {a : Act}, TRel m N t a → PR m l (ps.map fun x => (x.1, a.eval x.2))
 | [], _, h => ⟨[], h, fun _ => trivial⟩
 | (i, x) :: r, K, h => by
  obtain ⟨v, hv, h2⟩ := onS_ok h
  obtain ⟨l, h3, hl⟩ := cellsOfV_ok h2
  obtain ⟨ps, hk, hps⟩ := evParts_ok h3
  exact ⟨(i, l) :: ps, hk, fun ht => ⟨rfl, hl _ _ (ev_ok hv ht), hps ht⟩⟩
def fillL (pl : Nat → Option (Nat × Nat)) : List Value → List (Nat × List Value) → (List Value → Prop) → Prop
 | cs, [], K => K cs
 | cs, (i, vs) :: r, K => onS (pl i) fun x => match Nat.beq vs.length x.2, Nat.ble (x.1 + vs.length) cs.length with | true, true => fillL pl (putL cs x.1 vs) r K | _, _ => False
theorem foldl_put (off : Nat) : ∀ (l : List Value) (k : Nat) (cs : Array Value), ((l.zipIdx k).foldl (fun (cs : Array Value) (x : Value × Nat) => cs.setIfInBounds (off + x.2) x.1) cs).toList = putL cs.toList (off + k) l
 | [], _, _ => rfl
 | v :: l, k, cs => by
  simp only [List.zipIdx_cons, List.foldl_cons]
  rw [foldl_put off l (k + 1)]
  simp [putL, Nat.add_assoc]
theorem fill_ok (pl : Nat → Option (Nat × Nat)) : ∀ {ps : List (Nat × List Value)} {cs : List Value} {K : List Value → Prop}, fillL pl cs ps K →
 ∃ r, K r ∧ ∀ (m : BM) (qs : List (Nat × Value)) (cs' : Array Value), PR m ps qs → LR (V1 m) cs cs'.toList → ∃ r', LR (V1 m) r r' ∧ Instr.fill pl cs' qs = some r'.toArray
 | [], cs, K, h => ⟨cs, h, fun m qs cs' hp hc => by
  cases qs with
  | nil => exact ⟨cs'.toList, hc, by simp [Instr.fill]⟩
  | cons _ _ => exact hp.elim⟩
 | (i, vs) :: ps, cs, K, h => by
  obtain ⟨x, hx, h2⟩ := onS_ok h
  obtain ⟨off, size⟩ := x
  split at h2
  · rename_i e1 e2
    have e1 : vs.length = size := Nat.eq_of_beq_eq_true e1
    have e2 : off + vs.length ≤ cs.length := Nat.le_of_ble_eq_true e2
    obtain ⟨r, hk, hr⟩ := fill_ok pl h2
    refine ⟨r, hk, fun m qs cs' hp hc => ?_⟩
    match qs, hp with
    | (j, c) :: qs, ⟨e, ⟨l', hl', hcc⟩, hp⟩ =>
     subst e
     have hlen := hl'.length
     have hlen2 := hc.length
     rw [Array.length_toList] at hlen2
     have hfold : (c.cells.zipIdx.foldl (fun (cs : Array Value) (x : Value × Nat) => cs.setIfInBounds (off + x.2) x.1) cs').toList = putL cs'.toList off l' := by
      rw [hcc, ← Array.foldl_toList]
      have := foldl_put off l' 0 cs'
      simpa using this
     have hrel : LR (V1 m) (putL cs off vs) (c.cells.zipIdx.foldl (fun (cs : Array Value) (x : Value × Nat) => cs.setIfInBounds (off + x.2) x.1) cs').toList := by
      rw [hfold]; exact LR.put off hl' hc
     obtain ⟨r', hr', hf⟩ := hr m qs _ hp hrel
     refine ⟨r', hr', ?_⟩
     have s1 : c.cells.size = vs.length := by rw [hcc]; simp [hlen]
     have : ¬ ((c.cells.size ≠ size || off + c.cells.size > cs'.size) = true) := by
      rw [s1, e1]; simp; omega
     unfold Instr.fill
     rw [hx]
     simp only
     rw [if_neg this]
     exact hf
  · exact h2.elim
def szOf (T : Tab) (t : TypeId) : Nat := match lkR T t with | some r => r.size | none => 0
def allRows (T : Tab) : List (Nat × TypeId) → Bool
 | [] => true
 | x :: r => match lkR T x.2 with | some _ => allRows T r | none => false
def vcBuild (T : Tab) (t : TM) (ty : TypeId) (parts : List (Nat × Operand)) (K : Value → Prop) : Prop :=
 onS (lkR T ty) fun r => match flatR r.zero with
 | true => cellsOfV r.zero fun z => evParts t parts fun ps => match r.ty with
  | .struct fs => match allRows T fs with | true => fillL (fun i => (fs[i]?).map fun x => (x.1, szOf T x.2)) z ps fun cs => forceL cs fun cs => K (.agg cs.toArray) | false => False
  | .array _ e => onS (lkR T e) fun re => fillL (fun i => some (i * re.size, re.size)) z ps fun cs => forceL cs fun cs => K (.agg cs.toArray)
  | _ => False
 | false => False
theorem mapM_places {P : Program} {T : Tab} (hT : TabOk P T) (w : World) : ∀ (Fs : List Field), allRows T (Fs.map fun f => (f.offset, f.type)) = true →
 (Fs.mapM (fun f => do let s ← sizeOf f.type; pure (f.offset, s)) : Sem (List (Nat × Nat))).run P w = .ok (Fs.map fun f => (f.offset, szOf T f.type)) w
 | [], _ => by simp
 | f :: Fs, h => by
  simp only [List.map_cons, allRows] at h
  split at h
  · rename_i r hr
    obtain ⟨ok, e⟩ := hT.look hr
    have hs := ok.sizeOf w
    rw [e] at hs
    rw [List.mapM_cons]
    simp only [Sem.run_bind, hs, Result.andThen_ok, Sem.run_pure, mapM_places hT w Fs h, List.map_cons, szOf, hr]
  · cases h
theorem vcBuild_ok {P : Program} {T : Tab} (hT : TabOk P T) {t : TM} {hp : HP} {o : Oper} {ty : TypeId} {parts : Array (Nat × Operand)} (ho : o.op = .build ty parts)
 {K : Value → Prop} (h : vcBuild T t ty parts.toList K) : ∃ v, K v ∧ POk P t hp o v := by
 obtain ⟨r, hr, h2⟩ := onS_ok h
 obtain ⟨ok, rfl⟩ := hT.look hr
 have hd := ok.desc
 split at h2
 · rename_i hf
   obtain ⟨z, h3, hz⟩ := cellsOfV_ok h2
   obtain ⟨ps, h4, hps⟩ := evParts_ok h3
   have key : ∀ (pl : Nat → Option (Nat × Nat)), (fillL pl z ps fun cs => forceL cs fun cs => K (.agg cs.toArray)) →
    (∀ (a : Act) w cs, Instr.fill pl r.zero.cells (parts.map fun (i, x) => (i, a.eval x)).toList = some cs → (execOp a.eval o).run P w = .ok (.value (.agg cs)) w) → ∃ v, K v ∧ POk P t hp o v := by
    intro pl hfl hrun
    obtain ⟨u, hk, hu⟩ := fill_ok pl hfl
    obtain ⟨hk, hleaf⟩ := forceL_ok hk
    refine ⟨_, hk, fun F B w0 m n w N a H ht => ?_⟩
    obtain ⟨l', hl', e⟩ := hz m r.zero (VR.same hf)
    obtain ⟨u', hu', hfill⟩ := hu m _ r.zero.cells (hps ht) (by rw [e]; exact hl')
    refine ⟨_, (VR.of1 rfl).2 ⟨u', LR.to0 (fun v hv => (hleaf v hv).1) hu', rfl⟩, hrun a w _ ?_⟩
    have : (parts.map fun (i, x) => (i, a.eval x)).toList = parts.toList.map fun x => (x.1, a.eval x.2) := by simp
    rw [this]; exact hfill
   split at h4
   · rename_i fs hty
     rw [hty] at hd
     obtain ⟨Fs, hF, hfs⟩ := hd
     split at h4
     · rename_i hall
       refine key _ h4 fun a w cs hcs => ?_
       subst hfs
       have hm := mapM_places hT w Fs.toList hall
       simp only [execOp, ho, Instr.build, Sem.run_bind, ok.zeroValue, Result.andThen_ok, run_underlying hF]
       rw [Array.mapM_eq_mapM_toList]
       simp only [Sem.run_map, hm, Result.andThen_ok]
       have : (fun x => ((Fs.toList.map fun f => (f.offset, szOf T f.type)).toArray)[x]?) = fun (i : Nat) => ((Fs.toList.map fun f => (f.offset, f.type))[i]?).map fun (x : Nat × TypeId) => (x.1, szOf T x.2) := by
        funext i
        simp
        rfl
       rw [this, hcs]
       rfl
     · exact h4.elim
   · rename_i ln e hty
     rw [hty] at hd
     obtain ⟨re, hre, h5⟩ := onS_ok h4
     obtain ⟨oke, rfl⟩ := hT.look hre
     refine key _ h5 fun a w cs hcs => ?_
     simp only [execOp, ho, Instr.build, Sem.run_bind, ok.zeroValue, Result.andThen_ok, run_underlying (show P.underlying r.t = _ from hd), oke.sizeOf, hcs]
     rfl
   · exact h4.elim
 · exact h2.elim
def vcBuildSlice (T : Tab) (t : TM) (h : HP) (n : Nat) (ty : TypeId) (len : Nat) (parts : List (Nat × Operand)) (K : Value → HP → Nat → Prop) : Prop :=
 onS (lkR T ty) fun r => match r.ty with
 | .slice e => onS (lkR T e) fun re => match flatR re.zero with
  | true => cellsOfV re.zero fun z => match Nat.beq z.length re.size, Nat.ble (len * re.size) 16777216, Nat.ble len 16777216 with
   | true, true, true => evParts t parts fun ps => fillL (fun i => some (i * re.size, re.size)) (List.replicate len z).flatten ps fun cs => forceL cs fun cs => K (newS n len len) ((n, .row e re.size len cs) :: h) (n + 1)
   | _, _, _ => False
  | false => False
 | _ => False
theorem vcBuildSlice_ok {P : Program} {T : Tab} (hT : TabOk P T) {t : TM} {h : HP} {n : Nat} {o : Oper} {ty : TypeId} {len : Nat} {parts : Array (Nat × Operand)} (ho : o.op = .buildSlice ty len parts)
 {K : Value → HP → Nat → Prop} (hv : vcBuildSlice T t h n ty len parts.toList K) : EOk P t h n o K := by
 obtain ⟨r, hr, h2⟩ := onS_ok hv
 obtain ⟨ok, rfl⟩ := hT.look hr
 have hd := ok.desc
 split at h2
 · rename_i e hty
   rw [hty] at hd
   obtain ⟨re, hre, h3⟩ := onS_ok h2
   obtain ⟨oke, rfl⟩ := hT.look hre
   split at h3
   · rename_i hf
     obtain ⟨z, h4, hz⟩ := cellsOfV_ok h3
     split at h4
     · rename_i e1 e2 e3
       have e1 : z.length = re.size := Nat.eq_of_beq_eq_true e1
       have e2 : len * re.size ≤ 16777216 := Nat.le_of_ble_eq_true e2
       have e3 : len ≤ 16777216 := Nat.le_of_ble_eq_true e3
       obtain ⟨ps, h5, hps⟩ := evParts_ok h4
       obtain ⟨u, h6, hu⟩ := fill_ok _ h5
       obtain ⟨hk, hleaf⟩ := forceL_ok h6
       intro F B w0 m w N a Q H ht
       obtain ⟨l', hl', ez⟩ := hz m re.zero (VR.same hf)
       have hl0 : l'.length = re.size := by rw [hl'.length, e1]
       have hrep : ∀ k, LR (V1 m) (List.replicate k z).flatten (List.replicate k l').flatten := by
        intro k
        induction k with
        | zero => trivial
        | succ k ih => rw [List.replicate_succ, List.replicate_succ, List.flatten_cons, List.flatten_cons]; exact LR.append hl' ih
       obtain ⟨u', hu', hfill⟩ := hu m _ (List.replicate len l').flatten.toArray (hps ht) (hrep len)
       have hcells : (Array.range (len * re.size)).map (fun i => re.zero.cells[i % re.zero.cells.size]!) = (List.replicate len l').flatten.toArray := by
        apply Array.toList_inj.1
        rw [ez, ← hl0]
        exact madeCells_flat l' len
       have hulen : u'.length = len * re.size := by
        have hq : ∀ (pl : Nat → Option (Nat × Nat)) (qs : List (Nat × Value)) (c c' : Array Value), Instr.fill pl c qs = some c' → c'.size = c.size := by
         intro pl qs
         induction qs with
         | nil => intro c c' h; simp [Instr.fill] at h; rw [h]
         | cons q qs ih =>
          intro c c' h
          obtain ⟨i, v⟩ := q
          unfold Instr.fill at h
          split at h
          · cases h
          · split at h
            · cases h
            · rename_i off size _ _
              rw [ih _ _ h]
              have : ∀ (l : List (Value × Nat)) (c : Array Value), (l.foldl (fun (cs : Array Value) (x : Value × Nat) => cs.setIfInBounds (off + x.2) x.1) c).size = c.size := by
               intro l
               induction l with
               | nil => intro c; rfl
               | cons x l ih => intro c; rw [List.foldl_cons, ih]; simp
              rw [← Array.foldl_toList]
              exact this _ _
        have := hq _ _ _ _ hfill
        simp at this
        rw [this]
        simp [hl0]
       have hrun : (execOp a.eval o).run P w = .ok (.value (.slice (some ⟨w.heap.size, 0, none⟩) len len)) (w.alloc (.cells u'.toArray re.t)) := by
        have hparts : (parts.map fun (i, x) => (i, a.eval x)).toList = parts.toList.map fun x => (x.1, a.eval x.2) := by simp
        have n1 : ¬ (16777216 < len * re.size) := by omega
        simp only [execOp, ho, Instr.buildSlice, Sem.run_bind, run_underlying (show P.underlying r.t = _ from hd), Result.andThen_ok, oke.sizeOf]
        rw [if_neg (by simpa using n1)]
        by_cases h0 : len * re.size = 0
        · have : (List.replicate len l').flatten.toArray = #[] := by
           apply Array.toList_inj.1
           apply List.eq_nil_of_length_eq_zero
           simp [hl0]
           simpa using h0
          rw [this] at hfill
          simp [h0, Array.range_zero', hparts, hfill, newRow]
        · simp [h0, oke.zeroValue, hcells, hparts, hfill, newRow]
       unfold Oper.wp
       rw [hrun]
       have hpush := H.pushRow re.t re.size len (l := u) (l' := u') hu' (rest := []) (by rw [← hu'.length, hulen]; rfl) (by unfold maxLen; omega)
       rw [List.append_nil] at hpush
       exact ⟨_, _, _, _, _, BM.le_add _ _ _, rfl, VR.newS m n _ _ _, hpush, hk⟩
     · exact h4.elim
   · exact h3.elim
 · exact h2.elim
end Go.Proofs.YtelolcagncgfpaaGreat
