/- A generator of conditions for a walk, part 9: append, calls, all operations. No program in sight. -/
import Derived.Test.YthniifphilnokaaEngH
namespace Go.Proofs.Ythniifphilnokaa
open Go.RowKit
set_option linter.unusedSimpArgs false
set_option linter.unusedVariables false

/-- What is appended: its cells, and how many elements it has. -/
def oneAll (l : List Value) : Bool := l.all fun v => v.oneCell'
def vcAppend (T : Tab) (h : HP) (n : Nat) (ts : Array TypeId) (vs : List Value) (K : Value → HP → Nat → Prop) : Prop :=
  match ts, vs with
  | ⟨[sT, xT]⟩, [s, x] => match Nat.beq sT xT with
    | false => False
    | true => onS (lkR T sT) fun r => match r.ty with
      | .slice e => onS (lkR T e) fun re => match Nat.beq re.zero.cells.size re.size, Nat.ble 1 re.size with
        | true, true => match x with
          | .slice (some ⟨b2, o2, none⟩) m _ => letR re fun size bytes => onS (lkH h b2) fun it => onS (subL it.cells o2 (m * size)) fun news => chk (oneAll news) <|
            match s with
            | .slice none 0 0 => chk (Nat.ble (m * bytes) 140737488355328) <| chk (Nat.ble m 140737488355328) <| ifB (Nat.beq m 0) (K (.slice none 0 0) h n) (∀ cap, K (newS n m cap) ((n, .row e size cap news) :: h) (n + 1))
            | .slice (some ⟨b, 0, none⟩) k cap => onS (lkH h b) fun its => match its with
              | .row e' size' cap' xs => chk (Nat.beq e' e) <| chk (Nat.beq size' size) <| cap' = cap ∧ xs.length = k * size ∧ (chk (Nat.ble ((k + m) * bytes) 140737488355328) <| chk (Nat.ble (k + m) 140737488355328) <|
                  ∀ cap, K (newS n (k + m) cap) ((n, .row e size cap (xs ++ news)) :: rmH h b) (n + 1))
              | _ => False
            | _ => False
          | .slice none 0 0 => match s with
            | .slice none 0 0 => K (.slice none 0 0) h n
            | .slice (some ⟨b, 0, none⟩) k cap => onS (lkH h b) fun its => match its with
              | .row e' size' cap' xs => letR re fun size _ => chk (Nat.beq e' e) <| chk (Nat.beq size' size) <| cap' = cap ∧ xs.length = k * size ∧ K (.slice (some ⟨b, 0, none⟩) k cap) h n
              | _ => False
            | _ => False
          | _ => False
        | _, _ => False
      | _ => False
  | _, _ => False
theorem LR.oneAll {m : BM} : ∀ {l l' : List Value}, LR (V1 m) l l' → oneAll l = true → ∀ u ∈ l', u.oneCell' = true
  | [], [], _, _, u, hu => by cases hu
  | v :: l, c :: l', h, h1, u, hu => by
    simp only [Go.Proofs.Ythniifphilnokaa.oneAll, List.all_cons, Bool.and_eq_true] at h1
    cases hu with
    | head => exact V1.one h1.1 h.1
    | tail _ hu => exact LR.oneAll h.2 h1.2 u hu
theorem vcAppend_ok {P : Program} {T : Tab} (hT : TabOk P T) {t : TM} {h : HP} {n : Nat} {o : Oper} {ts : Array TypeId} {args : Array Operand} (ho : o.op = .call { callee := .builtin .append, args := args, argTypes := ts })
    {K : Value → HP → Nat → Prop} (hv : evL t args.toList fun vs => vcAppend T h n ts vs K) : EOk P t h n o K := by
  intro F B w0 m w N a Q H ht
  obtain ⟨vs, h2, hvs⟩ := evL_ok hv
  replace hvs := hvs ht
  unfold vcAppend at h2
  split at h2
  · rename_i sT xT s x
    split at h2
    · exact h2.elim
    · rename_i htt
      obtain rfl : sT = xT := Nat.eq_of_beq_eq_true htt
      obtain ⟨r, hr, h3⟩ := onS_ok h2
      obtain ⟨ok, rfl⟩ := hT.look hr
      have hd := ok.desc
      split at h3
      · rename_i e hty
        rw [hty] at hd
        obtain ⟨re, hre, h4⟩ := onS_ok h3
        obtain ⟨oke, rfl⟩ := hT.look hre
        obtain ⟨i, hi, hi1, hi2, hi3⟩ := oke.info'
        obtain ⟨cs, cx, hargs, hcs, hcx⟩ : ∃ cs cx, args.map a.eval = #[cs, cx] ∧ VR m s cs ∧ VR m x cx := by
          generalize hg : args.toList.map a.eval = l at hvs
          match l, hvs with
          | [c, d], ⟨hc, hd, _⟩ => exact ⟨c, d, Array.toList_inj.1 (by simpa using hg), hc, hd⟩
        have fin : ∀ (v : Value) (w' : World), (Builtin.append_ #[r.t, r.t] o.type #[cs, cx]).run P w = .ok v w' → (execOp a.eval o).run P w = .ok (.value v) w' := by
          intro v w' hrun
          simp only [execOp, ho, resolve, Sem.run_bind, Sem.run_pure, Result.andThen_ok, invoke, builtin, hargs]
          erw [hrun]; rfl
        split at h4
        · rename_i e1 e2
          have e1 : re.zero.cells.size = re.size := Nat.eq_of_beq_eq_true e1
          have e2 : 1 ≤ re.size := Nat.le_of_ble_eq_true e2
          have zsz : ∀ q, (Builtin.zeroCells re.zero.cells q).size = q * re.size := fun q => by rw [size_zeroCells, e1]
          split at h4
          · -- something is appended
            rename_i b2 o2 mm c2
            rw [letR_eq] at h4
            obtain ⟨it, hit, h4a⟩ := onS_ok h4
            obtain ⟨news, hsub, h5a⟩ := onS_ok h4a
            obtain ⟨h1, h5⟩ := chk_ok h5a
            clear h4 h4a h5a
            obtain ⟨hnews, hnl⟩ := subL_ok hsub
            obtain ⟨ax, ⟨_, gx, sx, hmx, rfl⟩, rfl⟩ := hcx.slc
            obtain ⟨l, hl, hcell⟩ := H.cell hit hmx
            have hl2 : LR (V1 m) news ((l.drop o2).take (mm * re.size)) := hnews ▸ (hl.drop o2).take _
            have hc1 := hl2.oneAll h1
            have hlen2 : ((l.drop o2).take (mm * re.size)).length = mm * i.size := by rw [hl2.length, hnl, hi2]
            have hcell2 : ∀ j v, ((l.drop o2).take (mm * re.size))[j]? = some v → w.cell? ((⟨gx, o2 + sx, none⟩ : Addr).add j) = some v := by
              intro j v hj
              rw [add_lit', show o2 + sx + j = sx + (o2 + j) by omega]
              refine hcell _ _ ?_
              rw [List.getElem?_take] at hj
              split at hj
              · rwa [List.getElem?_drop] at hj
              · cases hj
            generalize (l.drop o2).take (mm * re.size) = nl at hl2 hc1 hlen2 hcell2
            have hzl : ∀ cap q, q ≤ cap → (q * i.size + (Builtin.zeroCells re.zero.cells (cap - q)).toList.length) = cap * re.size := by
              intro cap q hq
              rw [Array.length_toList, zsz, hi2, ← Nat.add_mul, show q + (cap - q) = cap by omega]
            split at h5
            · obtain ⟨hb, h5⟩ := chk_ok h5
              obtain ⟨hb2, h5⟩ := chk_ok h5
              obtain ⟨k0, k1⟩ := ifB_ok h5
              replace hb := Nat.le_of_ble_eq_true hb
              replace hb2 := Nat.le_of_ble_eq_true hb2
              replace k0 : mm = 0 → _ := fun e => k0 (by rw [e]; rfl)
              replace k1 : 0 < mm → _ := fun e => k1 (beq_no (by omega))
              obtain rfl := (VR.flat rfl).1 hcs
              rcases Nat.eq_zero_or_pos mm with h0 | h0
              · subst h0
                have : nl = [] := List.eq_nil_of_length_eq_zero (by simpa using hlen2)
                subst this
                have hrun : (Builtin.append_ #[r.t, r.t] o.type #[.slice none 0 0, .slice (some ⟨gx, o2 + sx, none⟩) 0 c2]).run P w = .ok (.slice none 0 0) w := by
                  simp [Builtin.append_, run_underlying (show P.underlying r.t = _ from hd), sizeOf, typeInfo, hi, Builtin.lenOf, Builtin.firstCells, loadCells, loadCellsFrom]
                unfold Oper.wp
                rw [fin _ _ hrun]
                exact ⟨m, _, _, _, _, BM.le_refl m, rfl, VR.same rfl, H, k0 rfl⟩
              · have hrun := run_append_nil (P := P) w r.t o.type re.t i re.zero hd hi hi1 ⟨gx, o2 + sx, none⟩ mm c2 nl hlen2 hcell2 h0 (by omega) (by rw [hi3]; omega)
                unfold Oper.wp
                rw [fin _ _ hrun]
                have hge := grownCap_ge w mm 0 re.t
                have hcm : grownCap w mm 0 re.t ≤ maxLen := grownCap_le_maxLen w mm 0 re.t (by unfold maxLen; omega)
                have hp := (H.later (Below.drew' w)).pushRow re.t re.size (grownCap w mm 0 re.t) hl2 (rest := (Builtin.zeroCells re.zero.cells (grownCap w mm 0 re.t - mm)).toList) (by rw [hnl, ← hi2]; rw [hzl _ _ hge, hi2]) hcm
                have e3 : (nl ++ (Builtin.zeroCells re.zero.cells (grownCap w mm 0 re.t - mm)).toList).toArray = nl.toArray ++ Builtin.zeroCells re.zero.cells (grownCap w mm 0 re.t - mm) := by
                  apply Array.toList_inj.1; simp
                rw [e3] at hp
                exact ⟨_, _, _, _, _, BM.le_add _ _ _, rfl, VR.newS m n _ _ _, hp, k1 h0 _⟩
            · rename_i b k cap
              obtain ⟨its, hits, h6⟩ := onS_ok h5
              split at h6
              · rename_i e' size' cap' xs
                obtain ⟨q1, h6⟩ := chk_ok h6
                obtain ⟨q2, h6⟩ := chk_ok h6
                obtain ⟨rfl, hxl, h6⟩ := h6
                obtain ⟨hb, h6⟩ := chk_ok h6
                obtain ⟨hb2, hk⟩ := chk_ok h6
                obtain rfl := Nat.eq_of_beq_eq_true q1
                obtain rfl := Nat.eq_of_beq_eq_true q2
                replace hb := Nat.le_of_ble_eq_true hb
                replace hb2 := Nat.le_of_ble_eq_true hb2
                obtain ⟨as, ⟨_, g, ss, hms, rfl⟩, rfl⟩ := hcs.slc
                obtain ⟨rfl, hg, hcm, ol, cur, hol, hheap, hsz, htk, hle⟩ := H.at hits hms
                have holl : ol.length = k * i.size := by rw [hol.length, hxl, hi2]
                have hkc : k ≤ cap' := by
                  rw [holl, hsz, hi2] at hle
                  exact Nat.le_of_mul_le_mul_right hle e2
                simp only [Nat.zero_add] at *
                by_cases hroom : k + mm ≤ cap'
                · have hfit : k * i.size + nl.length ≤ cur.size := by rw [hlen2, hsz, hi2, ← Nat.add_mul]; exact Nat.mul_le_mul_right _ hroom
                  have hrun := run_append_room (P := P) w r.t o.type re.t i hd hi g k cap' cur hheap ⟨gx, o2 + sx, none⟩ mm c2 nl hlen2 hcell2 hc1 hroom hfit
                  unfold Oper.wp
                  rw [fin _ _ hrun]
                  have hmv := H.move (it' := .row re.t re.size cap' (xs ++ news)) (w' := w.setRow g (cur.toList.take (k * i.size) ++ nl ++ cur.toList.drop (k * i.size + nl.length)).toArray) hits rfl hms hg
                    (fun q _ hq => setRow_other w g q _ hq) (Nat.le_of_eq (setRow_size w g _).symm) rfl rfl rfl (.inl rfl)
                    ⟨rfl, hg, hcm, ol ++ nl, _, (LR.append hol hl2).mono (fun _ _ => V1.mono (BM.le_add _ _ _)), setRow_heap w g cur _ re.t _ hheap, by
                      simp only [List.size_toArray, List.length_append, List.length_take, List.length_drop, Array.length_toList]; omega, by
                      rw [← holl, htk]
                      exact List.take_left, by
                      simp only [List.size_toArray, List.length_append, List.length_take, List.length_drop, Array.length_toList, holl]; omega⟩
                  exact ⟨_, _, _, _, _, BM.le_add _ _ _, rfl, VR.newS m n _ _ _, hmv, hk _⟩
                · have holds : ∀ j v, ol[j]? = some v → w.cell? ((⟨g, 0, none⟩ : Addr).add j) = some v := by
                    intro j v hj
                    have hlt : j < ol.length := by
                      rcases Nat.lt_or_ge j ol.length with h | h
                      · exact h
                      · rw [List.getElem?_eq_none h] at hj; cases hj
                    rw [add_lit', Nat.zero_add, cell_of_row w g j cur re.t (0, 0) hheap]
                    rw [← htk, List.getElem?_take, if_pos hlt] at hj
                    simpa using hj
                  have hrun := run_append_grow (P := P) w r.t o.type re.t i re.zero hd hi hi1 ⟨g, 0, none⟩ k cap' ol holl holds ⟨gx, o2 + sx, none⟩ mm c2 nl hlen2 hcell2 (by omega) (by omega) (growslice_fits (by omega) (by rw [hi3]; exact hb))
                  unfold Oper.wp
                  rw [fin _ _ hrun]
                  have hge := grownCap_ge w (k + mm) cap' re.t
                  have hcm2 : grownCap w (k + mm) cap' re.t ≤ maxLen := grownCap_le_maxLen w (k + mm) cap' re.t (by unfold maxLen; omega)
                  generalize grownCap w (k + mm) cap' re.t = gc at hge hcm2 ⊢
                  have hmv := H.move (it' := .row re.t re.size gc (xs ++ news)) (w' := w.drew.alloc (.cells (ol.toArray ++ nl.toArray ++ Builtin.zeroCells re.zero.cells (gc - (k + mm))) re.t)) hits rfl hms hg
                    (fun q hq _ => heap_alloc_old w.drew _ hq) (by simp) rfl rfl rfl (g' := w.heap.size) (.inr (Nat.le_refl _))
                    ⟨rfl, H.base', hcm2, ol ++ nl, _, (LR.append hol hl2).mono (fun _ _ => V1.mono (BM.le_add _ _ _)), heap_alloc_new w.drew _, by
                      have := hzl gc (k + mm) hge
                      simp only [Array.size_append, List.size_toArray, holl, hlen2]
                      rw [Array.length_toList] at this
                      rw [← Nat.add_mul]; exact this, by
                      simp only [Array.toList_append, List.append_assoc]
                      rw [← List.append_assoc]
                      exact List.take_left, by
                      simp only [Array.size_append, List.size_toArray, List.length_append]; omega⟩
                  exact ⟨_, _, _, _, _, BM.le_add _ _ _, rfl, VR.newS m n _ _ _, hmv, hk _⟩
              · exact h6.elim
            · exact h5.elim
          · -- nothing is
            obtain rfl := (VR.flat rfl).1 hcx
            split at h4
            · obtain rfl := (VR.flat rfl).1 hcs
              have hrun : (Builtin.append_ #[r.t, r.t] o.type #[.slice none 0 0, .slice none 0 0]).run P w = .ok (.slice none 0 0) w := by
                simp [Builtin.append_, run_underlying (show P.underlying r.t = _ from hd), sizeOf, typeInfo, hi, Builtin.lenOf, Builtin.firstCells]
              unfold Oper.wp
              rw [fin _ _ hrun]
              exact ⟨m, _, _, _, _, BM.le_refl m, rfl, VR.same rfl, H, h4⟩
            · rename_i b k cap
              obtain ⟨its, hits, h6⟩ := onS_ok h4
              split at h6
              · rename_i e' size' cap' xs
                rw [letR_eq] at h6
                obtain ⟨q1, h6⟩ := chk_ok h6
                obtain ⟨q2, h6⟩ := chk_ok h6
                obtain ⟨rfl, hxl, hk⟩ := h6
                obtain rfl := Nat.eq_of_beq_eq_true q1
                obtain rfl := Nat.eq_of_beq_eq_true q2
                obtain ⟨as, has, rfl⟩ := hcs.slc
                obtain ⟨_, g, ss, hms, rfl⟩ := has
                obtain ⟨rfl, hg, hcm, ol, cur, hol, hheap, hsz, htk, hle⟩ := H.at hits hms
                have holl : ol.length = k * i.size := by rw [hol.length, hxl, hi2]
                have hkc : k ≤ cap' := by
                  rw [holl, hsz, hi2] at hle
                  exact Nat.le_of_mul_le_mul_right hle e2
                have hrun : (Builtin.append_ #[r.t, r.t] o.type #[.slice (some ⟨g, 0 + 0, none⟩) k cap', .slice none 0 0]).run P w = .ok (.slice (some ⟨g, 0 + 0, none⟩) k cap') w := by
                  simp [Builtin.append_, run_underlying (show P.underlying r.t = _ from hd), sizeOf, typeInfo, hi, Builtin.lenOf, Builtin.firstCells, hkc, storeCells]
                unfold Oper.wp
                rw [fin _ _ hrun]
                exact ⟨m, _, _, _, _, BM.le_refl m, rfl, VR.slc_of ⟨rfl, g, 0, hms, rfl⟩ _ _, H, hk⟩
              · exact h6.elim
            · exact h4.elim
          · exact h4.elim
        · exact h4.elim
      · exact h3.elim
  · exact h2.elim

/-! ### Calls; all operations -/
def appK : List Value → List Value → (List Value → Prop) → Prop
  | [], r, K => K r
  | v :: vs, r, K => appK vs r fun l => K (v :: l)
theorem appK_ok : ∀ {vs r : List Value} {K : List Value → Prop}, appK vs r K → K (vs ++ r)
  | [], _, _, h => h
  | v :: vs, r, K, h => appK_ok (vs := vs) (r := r) (K := fun l => K (v :: l)) h
/-- A call's way: the callee, its arguments with what it captured. -/
def vcCall (P : Program) (h : HP) (n : Nat) (f : Value) (vs : List Value) (K : Value → HP → Nat → Prop) : Prop :=
  match f with
  | .func (.func f) ⟨[]⟩ ⟨cap⟩ => match cap.all leaf with | true => appK vs cap fun l => CallOb P f l h n K | false => False
  | _ => False
theorem vcCall_ok {P : Program} {t : TM} {h : HP} {n : Nat} {o : Oper} {ts : Array TypeId} {x : Operand} {args : Array Operand} (ho : o.op = .call { callee := .value x, args := args, argTypes := ts })
    {f : Value} (hf : ev t x = some f) {K : Value → HP → Nat → Prop} (hv : evL t args.toList fun vs => vcCall P h n f vs K) : EOk P t h n o K := by
  intro F B w0 m w N a Q H ht
  obtain ⟨vs, h2, hvs⟩ := evL_ok hv
  replace hvs := hvs ht
  unfold vcCall at h2
  split at h2
  · rename_i g cap
    split at h2
    · rename_i hl
      replace h2 := appK_ok h2
      have hl' : ∀ u ∈ cap, leaf u = true := by simpa using hl
      have hfv := (VR.of1 rfl).1 (ev_ok hf ht)
      obtain ⟨cs, hcs, e⟩ : ∃ cs, LR (V0 m) cap cs ∧ a.eval x = .func (.func g) #[] cs.toArray := hfv
      have hcs' : LR (VR m) cap cs := by
        clear e h2 hl hf hv
        induction cap generalizing cs with
        | nil => cases cs with | nil => trivial | cons _ _ => exact hcs.elim
        | cons v vs ih =>
          cases cs with
          | nil => exact hcs.elim
          | cons c cs => exact ⟨(VR.of0 (hl' v (by simp))).2 hcs.1, ih (fun u hu => hl' u (by simp [hu])) cs hcs.2⟩
      have hrun : (execOp a.eval o).run P w = .ok (.enter g (args.toList.map a.eval ++ cs).toArray) w := by
        simp only [execOp, ho, resolve, e, Deferred.ofValue, Sem.run_bind, Sem.run_pure, Result.andThen_ok, invoke]
        rw [show (#[] ++ Array.map a.eval args ++ cs.toArray : Array Value) = (args.toList.map a.eval ++ cs).toArray from by apply Array.toList_inj.1; simp]
        exact h2.fn _ _
      unfold Oper.wp
      rw [hrun]
      refine (h2.run F B w0 m w _ H (hvs.append hcs')).mono ?_
      rintro e w' ⟨m', v, c, h', n', rfl, hm, hv, H', hk⟩
      exact ⟨m', v, c, h', n', hm, rfl, hv, H', hk⟩
    · exact h2.elim
  · exact h2.elim
/-- A method, called through an interface, is found. -/
structure MethOb (P : Program) (ty : TypeId) (name : String) (f : FuncId) : Prop where
  run : ∀ (a : Addr) (w : World), (method (P.types.size + Made.depth) ty (.pointer (some a)) name).run P w = .ok (f, .pointer (some a)) w
def vcInvoke (P : Program) (h : HP) (n : Nat) (recv : Value) (name : String) (vs : List Value) (K : Value → HP → Nat → Prop) : Prop :=
  match recv with
  | .iface ty (.pointer (some a)) => ∃ f, MethOb P ty name f ∧ CallOb P f (.pointer (some a) :: vs) h n K
  | _ => False
theorem vcInvoke_ok {P : Program} {t : TM} {h : HP} {n : Nat} {o : Oper} {ts : Array TypeId} {x : Operand} {name : String} {args : Array Operand} (ho : o.op = .call { callee := .invoke x name, args := args, argTypes := ts })
    {r : Value} (hf : ev t x = some r) {K : Value → HP → Nat → Prop} (hv : evL t args.toList fun vs => vcInvoke P h n r name vs K) : EOk P t h n o K := by
  intro F B w0 m w N a Q H ht
  obtain ⟨vs, h2, hvs⟩ := evL_ok hv
  replace hvs := hvs ht
  unfold vcInvoke at h2
  split at h2
  · rename_i ty ad
    obtain ⟨f, hm, hc⟩ := h2
    obtain ⟨b, hb, e⟩ : ∃ b, A0 m ad b ∧ a.eval x = .iface ty (.pointer (some b)) := (VR.of0 rfl).1 (ev_ok hf ht)
    have hrun : (execOp a.eval o).run P w = .ok (.enter f ((Value.pointer (some b)) :: args.toList.map a.eval).toArray) w := by
      simp only [execOp, ho, resolve, e, Sem.run_bind, Sem.run_pure, Result.andThen_ok, invoke]
      have h0 : (#[Value.iface ty (Value.pointer (some b))] ++ Array.map a.eval args)[0]? = some (Value.iface ty (Value.pointer (some b))) := by
        rw [Array.getElem?_append_left (show 0 < 1 from Nat.zero_lt_one)]; rfl
      rw [h0]
      have harr : (#[Value.pointer (some b)] ++ (#[Value.iface ty (Value.pointer (some b))] ++ Array.map a.eval args).extract 1 : Array Value) = ((Value.pointer (some b)) :: args.toList.map a.eval).toArray := by
        apply Array.toList_inj.1
        simp
        exact List.take_of_length_le (by simp)
      simp only [callMethod, Sem.run_bind, run_program, Result.andThen_ok, hm.run b w]
      rw [harr]
      exact hc.fn _ _
    unfold Oper.wp
    rw [hrun]
    refine (hc.run F B w0 m w (.pointer (some b) :: args.toList.map a.eval) H ⟨VR.ptr_of hb, hvs⟩).mono ?_
    rintro e w' ⟨m', v, c, h', n', rfl, hm, hv, H', hk⟩
    exact ⟨m', v, c, h', n', hm, rfl, hv, H', hk⟩
  · exact h2.elim

/-- The operations that only yield, literals of structs and arrays among them. -/
def isVal (T : Tab) : Op → Bool
  | .build .. => true
  | o => isPure T o
def vcVal (P : Program) (T : Tab) (t : TM) (hp : HP) (o : Op) (K : Value → Prop) : Prop :=
  match o with
  | .build ty parts => vcBuild T t ty parts.toList K
  | o => vcPure P T t hp o K
theorem vcVal_ok {P : Program} {T : Tab} (hT : TabOk P T) {t : TM} {hp : HP} {o : Oper} {K : Value → Prop} (h : vcVal P T t hp o.op K) : ∃ v, K v ∧ POk P t hp o v := by
  unfold vcVal at h
  split at h
  · rename_i ho; exact vcBuild_ok hT ho h
  · exact vcPure_ok hT h
def vcEff (P : Program) (T : Tab) (t : TM) (h : HP) (n : Nat) (o : Op) (K : Value → HP → Nat → Prop) : Prop :=
  match o with
  | .store ty x y => onS (ev t x) fun p => onS (ev t y) fun v => vcStore T h ty p v fun h => K undef h n
  | .alloc ty => vcAlloc T h n ty K
  | .box ty x => onS (ev t x) fun v => vcBox h n ty v K
  | .buildSlice ty len parts => vcBuildSlice T t h n ty len parts.toList K
  | .makeSlice ty x y => onS (ev t x) fun vl => onS (ev t y) fun vc => vcMake T h n ty vl vc K
  | .convert src dst x => onS (ev t x) fun v => vcBytes T h n src dst v K
  | .call c => match c.callee with
    | .builtin .append => evL t c.args.toList fun vs => vcAppend T h n c.argTypes vs K
    | .value f => onS (ev t f) fun f => evL t c.args.toList fun vs => vcCall P h n f vs K
    | .invoke x name => onS (ev t x) fun r => evL t c.args.toList fun vs => vcInvoke P h n r name vs K
    | _ => False
  | _ => False
theorem vcEff_ok {P : Program} {T : Tab} (hT : TabOk P T) {t : TM} {h : HP} {n : Nat} {o : Oper} {K : Value → HP → Nat → Prop} (hv : vcEff P T t h n o.op K) : EOk P t h n o K := by
  unfold vcEff at hv
  split at hv
  · rename_i ho
    obtain ⟨p, hp, h2⟩ := onS_ok hv
    obtain ⟨v, hv', h3⟩ := onS_ok h2
    exact vcStore_ok hT ho hp hv' h3
  · rename_i ho; exact vcAlloc_ok hT ho hv
  · rename_i ho
    obtain ⟨v, hv', h3⟩ := onS_ok hv
    exact vcBox_ok ho hv' h3
  · rename_i ho; exact vcBuildSlice_ok hT ho hv
  · rename_i ho
    obtain ⟨p, hp, h2⟩ := onS_ok hv
    obtain ⟨v, hv', h3⟩ := onS_ok h2
    exact vcMake_ok hT ho hp hv' h3
  · rename_i ho
    obtain ⟨v, hv', h3⟩ := onS_ok hv
    exact vcBytes_ok hT ho hv' h3
  · rename_i c ho
    obtain ⟨callee, args, ts⟩ := c
    dsimp only at hv
    split at hv
    · exact vcAppend_ok hT ho hv
    · obtain ⟨v, hv', h3⟩ := onS_ok hv
      exact vcCall_ok ho hv' h3
    · obtain ⟨v, hv', h3⟩ := onS_ok hv
      exact vcInvoke_ok ho hv' h3
    · exact hv.elim
  · exact hv.elim
end Go.Proofs.Ythniifphilnokaa
