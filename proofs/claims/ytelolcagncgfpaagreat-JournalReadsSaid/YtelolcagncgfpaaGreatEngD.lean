/- A generator of conditions for a walk, part 4: addresses, fields, elements, parts; what only yields, put together. No program in sight. -/
import Derived.Test.YtelolcagncgfpaaGreatEngC
namespace Go.Proofs.YtelolcagncgfpaaGreat
open Go.RowKit
set_option linter.unusedSimpArgs false
set_option linter.unusedVariables false
theorem A0.plus {m : BM} {b o : Nat} {c : Addr} (h : A0 m ⟨b, o, none⟩ c) (k : Nat) : A0 m ⟨b, o + k, none⟩ (c.add k) := by
 obtain ⟨g, s, hm, hs, rfl⟩ := h.old
 refine .inl ⟨rfl, g, s, hm, hs, ?_⟩
 rw [add_lit']
 show (⟨g, o + sh s + k, none⟩ : Addr) = ⟨g, o + k + sh s, none⟩
 rw [show o + sh s + k = o + k + sh s by omega]
theorem A0.plusR {m : BM} {b o : Nat} {c : Addr} (h : A0 m ⟨b, o, some 1⟩ c) (k : Nat) : A0 m ⟨b, o + k, some 1⟩ (c.add k) := by
 obtain rfl := A0.rig1.1 h
 rw [add_lit']
 exact A0.rig1.2 rfl
theorem VR.ptr_of {m : BM} {a c : Addr} (h : A0 m a c) : VR m (.pointer (some a)) (.pointer (some c)) := (VR.of0 rfl).2 ⟨c, h, rfl⟩
theorem VR.slc_of {m : BM} {b o : Nat} {c : Addr} (h : A0 m ⟨b, o, none⟩ c) (n k : Nat) (p : Option Nat := none) (hr : isRig p = false) : VR m (.slice (some ⟨b, o, p⟩) n k) (.slice (some c) n k) := by
 obtain ⟨g, s, hm, hs, rfl⟩ := h.old
 exact VR.slc_at hm hs p hr n k
def Out (P : Program) (hp : HP) (vs : List Value) (run : List Value → Sem Value) (u : Value) : Prop :=
 ∀ F B w0 m n w cs, HRel F B w0 m hp n w → LR (VR m) vs cs → ∃ d, VR m u d ∧ (run cs).run P w = .ok d w
def vcFieldAddr (T : Tab) (xT : TypeId) (f : Nat) (v : Value) (K : Value → Prop) : Prop :=
 match v with
 | .pointer (some ⟨b, o, none⟩) => onS (lkR T xT) fun r => match r.ty with
  | .struct fs => onS fs[f]? fun x => onS (lkR T x.2) fun rf => match Nat.beq rf.size 0 with | true => False | false => K (.pointer (some ⟨b, o + x.1, none⟩))
  | _ => False
 | .pointer (some ⟨b, o, some (Nat.succ Nat.zero)⟩) => onS (lkR T xT) fun r => match r.ty with
  | .struct fs => onS fs[f]? fun x => onS (lkR T x.2) fun rf => match Nat.beq rf.size 0 with | true => False | false => K (.pointer (some ⟨b, o + x.1, some 1⟩))
  | _ => False
 | _ => False
theorem vcFieldAddr_ok {P : Program} {T : Tab} (hT : TabOk P T) {hp : HP} {xT : TypeId} {f : Nat} {v : Value} {K : Value → Prop} (h : vcFieldAddr T xT f v K) :
 ∃ u, K u ∧ Out P hp [v] (fun cs => Instr.fieldAt xT (cs.getD 0 undef) f) u := by
 unfold vcFieldAddr at h
 split at h
 · rename_i b o
   obtain ⟨r, hr, h2⟩ := onS_ok h
   clear h
   obtain ⟨ok, rfl⟩ := hT.look hr
   have hd := ok.desc
   split at h2
   · rename_i fs hty
     rw [hty] at hd
     obtain ⟨Fs, hF, hfs⟩ := hd
     obtain ⟨x, hx, h3⟩ := onS_ok h2
     obtain ⟨rf, hrf, h4⟩ := onS_ok h3
     obtain ⟨okf, hrt⟩ := hT.look hrf
     split at h4
     · exact h4.elim
     · rename_i hz
       refine ⟨_, h4, fun F B w0 m n w cs H hc => ?_⟩
       match cs, hc with
       | [c], ⟨hc, _⟩ =>
        obtain ⟨c', hc', rfl⟩ := VR.ptr hc
        refine ⟨_, VR.ptr_of (hc'.plus x.1), ?_⟩
        obtain ⟨fd, hfd, hxe⟩ : ∃ fd, Fs[f]? = some fd ∧ (fd.offset, fd.type) = x := by
         rw [← hfs, List.getElem?_map] at hx
         simpa using hx
        subst hxe
        have hsz : ¬ rf.size = 0 := fun e => by rw [e] at hz; cases hz
        have := okf.sizeOf w
        rw [hrt] at this
        simp [Instr.fieldAt, run_underlying hF, hfd, Instr.sureAddr, fieldPlace, this, hsz]
   · exact h2.elim
 · rename_i b o q
   obtain ⟨r, hr, h2⟩ := onS_ok h
   clear h
   obtain ⟨ok, rfl⟩ := hT.look hr
   have hd := ok.desc
   split at h2
   · rename_i fs hty
     rw [hty] at hd
     obtain ⟨Fs, hF, hfs⟩ := hd
     obtain ⟨x, hx, h3⟩ := onS_ok h2
     obtain ⟨rf, hrf, h4⟩ := onS_ok h3
     obtain ⟨okf, hrt⟩ := hT.look hrf
     split at h4
     · exact h4.elim
     · rename_i hz
       refine ⟨_, h4, fun F B w0 m n w cs H hc => ?_⟩
       match cs, hc with
       | [c], ⟨hc, _⟩ =>
        obtain ⟨c', hc', rfl⟩ := VR.ptr hc
        refine ⟨_, VR.ptr_of (hc'.plusR x.1), ?_⟩
        obtain ⟨fd, hfd, hxe⟩ : ∃ fd, Fs[f]? = some fd ∧ (fd.offset, fd.type) = x := by
         rw [← hfs, List.getElem?_map] at hx
         simpa using hx
        subst hxe
        have hsz : ¬ rf.size = 0 := fun e => by rw [e] at hz; cases hz
        have := okf.sizeOf w
        rw [hrt] at this
        simp [Instr.fieldAt, run_underlying hF, hfd, Instr.sureAddr, fieldPlace, this, hsz]
   · exact h2.elim
 · exact h.elim
def vcPart (T : Tab) (t : TypeId) (cs : List Value) (off : Nat) (K : Value → Prop) : Prop :=
 onS (lkR T t) fun r => match r.ty.agg with
  | true => onS (subL cs off r.size) fun vs => forceL vs fun vs => K (.agg vs.toArray)
  | false => onS cs[off]? fun u => forceV u fun u => match leaf u with | true => K u | false => False
theorem vcPart_ok {P : Program} {T : Tab} (hT : TabOk P T) {t : TypeId} {cs : List Value} {off : Nat} {K : Value → Prop} (h : vcPart T t cs off K) :
 ∃ u, K u ∧ ∀ m (w : World) l, LR (V0 m) cs l → ∃ d, VR m u d ∧ (part t l.toArray off).run P w = .ok d w := by
 obtain ⟨r, hr, h2⟩ := onS_ok h
 clear h
 obtain ⟨ok, rfl⟩ := hT.look hr
 cases hag : r.ty.agg with
 | true =>
  rw [hag] at h2
  obtain ⟨vs, hsub, hk⟩ := onS_ok h2
  obtain ⟨hvs, hlen⟩ := subL_ok hsub
  obtain ⟨hk, hleaf⟩ := forceL_ok hk
  refine ⟨_, hk, fun m w l hl => ⟨.agg ((l.drop off).take r.size).toArray, (VR.of1 rfl).2 ⟨_, hvs ▸ (hl.drop off).take r.size, rfl⟩, ?_⟩⟩
  simp only [part, Sem.run_bind, ok.isAgg, hag, Result.andThen_ok, if_true, ok.sizeOf, Sem.run_pure]
  congr 2
  apply Array.toList_inj.1
  simp [List.drop_take]
 | false =>
  rw [hag] at h2
  obtain ⟨u, hu, hk⟩ := onS_ok h2
  obtain ⟨h5, _, _⟩ := forceV_ok hk
  obtain ⟨hf, hk⟩ := ifLeaf h5
  refine ⟨_, hk, fun m w l hl => ?_⟩
  obtain ⟨d, hd, hv⟩ := hl.get hu
  refine ⟨d, (VR.of0 hf).2 hv, ?_⟩
  simp [part, ok.isAgg, hag, hd]
def vcField (T : Tab) (xT : TypeId) (f : Nat) (v : Value) (K : Value → Prop) : Prop :=
 match v with
 | .agg cs => onS (lkR T xT) fun r => match r.ty with
  | .struct fs => onS fs[f]? fun x => vcPart T x.2 cs.toList x.1 K
  | _ => False
 | _ => False
theorem vcField_ok {P : Program} {T : Tab} (hT : TabOk P T) {hp : HP} {xT : TypeId} {f : Nat} {v : Value} {K : Value → Prop} (h : vcField T xT f v K) :
 ∃ u, K u ∧ Out P hp [v] (fun cs => Instr.field xT (cs.getD 0 undef) f) u := by
 unfold vcField at h
 split at h
 · obtain ⟨r, hr, h2⟩ := onS_ok h
   clear h
   obtain ⟨ok, rfl⟩ := hT.look hr
   have hd := ok.desc
   split at h2
   · rename_i fs hty
     rw [hty] at hd
     obtain ⟨Fs, hF, hfs⟩ := hd
     obtain ⟨x, hx, h3⟩ := onS_ok h2
     obtain ⟨u, hk, hu⟩ := vcPart_ok hT h3
     refine ⟨u, hk, fun F B w0 m n w cs H hc => ?_⟩
     match cs, hc with
     | [c], ⟨hc, _⟩ =>
      obtain ⟨l, hl, rfl⟩ := VR.agg hc
      obtain ⟨d, hd, hr⟩ := hu m w l hl
      refine ⟨d, hd, ?_⟩
      obtain ⟨fd, hfd, hxe⟩ : ∃ fd, Fs[f]? = some fd ∧ (fd.offset, fd.type) = x := by
       rw [← hfs, List.getElem?_map] at hx
       simpa using hx
      subst hxe
      simp [Instr.field, run_underlying hF, hfd, asAgg, hr]
   · exact h2.elim
 · exact h.elim
def vcIndex (T : Tab) (xT : TypeId) (v i : Value) (K : Value → Prop) : Prop :=
 onS (lkR T xT) fun r => match v, i with
 | .string s, .int _ i => match r.ty with | .string => ∃ k : Nat, (k : Int) = i ∧ k < s.size ∧ K (.int .u8 (((bytesOf s).getD k 0).toNat : Nat)) | _ => False
 | .agg cs, .int _ i => match r.ty with | .array n e => onS (lkR T e) fun re => letR re fun size _ => ∃ k : Nat, (k : Int) = i ∧ k < n ∧ vcPart T e cs.toList (k * size) K | _ => False
 | _, _ => False
theorem vcIndex_ok {P : Program} {T : Tab} (hT : TabOk P T) {hp : HP} {xT : TypeId} {v i : Value} {K : Value → Prop} (h : vcIndex T xT v i K) :
 ∃ u, K u ∧ Out P hp [v, i] (fun cs => Instr.index xT (cs.getD 0 undef) (cs.getD 1 undef)) u := by
 obtain ⟨r, hr, h2⟩ := onS_ok h
 clear h
 obtain ⟨ok, rfl⟩ := hT.look hr
 have hd := ok.desc
 split at h2
 · rename_i s ki i
   split at h2
   · rename_i hty
     rw [hty] at hd
     obtain ⟨k, rfl, hks, hk⟩ := h2
     refine ⟨_, hk, fun F B w0 m n w cs H hc => ?_⟩
     match cs, hc with
     | [c, d], ⟨hc, hd', _⟩ =>
      refine ⟨_, VR.same rfl, ?_⟩
      rw [VR.str hc, VR.int hd']
      have hkd : k < (bytesOf s).length := by rw [bytesOf_length]; exact hks
      have e : (bytesOf s)[k]?.getD 0 = s[k]'hks := by rw [bytes_get s k hks hkd, List.getElem?_eq_getElem hkd]; rfl
      simp [Instr.index, asIntOf, run_underlying (show P.underlying r.t = _ from hd), hks, e]
   · exact h2.elim
 · rename_i cs ki i
   split at h2
   · rename_i ln e hty
     rw [hty] at hd
     obtain ⟨re, hre, h3⟩ := onS_ok h2
     obtain ⟨oke, rfl⟩ := hT.look hre
     rw [letR_eq] at h3
     obtain ⟨k, rfl, hkn, h4⟩ := h3
     obtain ⟨u, hk, hu⟩ := vcPart_ok hT h4
     refine ⟨u, hk, fun F B w0 m n w cs H hc => ?_⟩
     match cs, hc with
     | [c, d], ⟨hc, hd', _⟩ =>
      obtain ⟨l, hl, rfl⟩ := VR.agg hc
      obtain ⟨x, hx, hr⟩ := hu m w l hl
      refine ⟨x, hx, ?_⟩
      rw [VR.int hd']
      simp [Instr.index, asIntOf, run_underlying (show P.underlying r.t = _ from hd), hkn, oke.sizeOf, hr]
   · exact h2.elim
 · exact h2.elim
def vcIndexAddr (T : Tab) (xT : TypeId) (v i : Value) (K : Value → Prop) : Prop :=
 onS (lkR T xT) fun r => match v, i with
 | .slice (some ⟨b, o, q⟩) n _, .int _ i => match isRig q with
  | false => match r.ty with | .slice e => onS (lkR T e) fun re => letR re fun size _ => ∃ k : Nat, (k : Int) = i ∧ k < n ∧ K (.pointer (some ⟨b, o + k * size, none⟩)) | _ => False
  | true => match r.ty with | .slice e => onS (lkR T e) fun re => letR re fun size _ => ∃ k : Nat, (k : Int) = i ∧ k < n ∧ ∃ g o', slcA ⟨b, o, unrig q⟩ = some ⟨g, o', none⟩ ∧ K (.pointer (some ⟨g, o' + k * size, some 1⟩)) | _ => False
 | .pointer (some ⟨b, o, none⟩), .int _ i => match r.ty with | .array n e => onS (lkR T e) fun re => letR re fun size _ => ∃ k : Nat, (k : Int) = i ∧ k < n ∧ K (.pointer (some ⟨b, o + k * size, none⟩)) | _ => False
 | _, _ => False
theorem vcIndexAddr_ok {P : Program} {T : Tab} (hT : TabOk P T) {hp : HP} {xT : TypeId} {v i : Value} {K : Value → Prop} (h : vcIndexAddr T xT v i K) :
 ∃ u, K u ∧ Out P hp [v, i] (fun cs => Instr.indexAt xT (cs.getD 0 undef) (cs.getD 1 undef)) u := by
 obtain ⟨r, hr, h2⟩ := onS_ok h
 clear h
 obtain ⟨ok, rfl⟩ := hT.look hr
 have hd := ok.desc
 split at h2
 · rename_i b o q n c ki i
   cases hr : isRig q with
   | false =>
    rw [hr] at h2
    dsimp only at h2
    split at h2
    · rename_i e hty
      rw [hty] at hd
      obtain ⟨re, hre, h3⟩ := onS_ok h2
      obtain ⟨oke, rfl⟩ := hT.look hre
      rw [letR_eq] at h3
      obtain ⟨k, rfl, hkn, hk⟩ := h3
      refine ⟨_, hk, fun F B w0 m n w cs H hc => ?_⟩
      match cs, hc with
      | [c, d], ⟨hc, hd', _⟩ =>
       obtain ⟨c', hc', rfl⟩ := VR.slc_pos hc hr (.inl (by omega))
       refine ⟨_, VR.ptr_of (hc'.plus (k * re.size)), ?_⟩
       rw [VR.int hd']
       simp [Instr.indexAt, asIntOf, run_underlying (show P.underlying r.t = _ from hd), hkn, oke.sizeOf]
    · exact h2.elim
   | true =>
    rw [hr] at h2
    dsimp only at h2
    split at h2
    · rename_i e hty
      rw [hty] at hd
      obtain ⟨re, hre, h3⟩ := onS_ok h2
      obtain ⟨oke, rfl⟩ := hT.look hre
      rw [letR_eq] at h3
      obtain ⟨k, rfl, hkn, g, o', hg, hk⟩ := h3
      refine ⟨_, hk, fun F B w0 m n w cs H hc => ?_⟩
      obtain ⟨q', rfl⟩ : ∃ q', q = some (q' + 1) := by
       match q, hr with
       | some (q' + 1), _ => exact ⟨q', rfl⟩
      match cs, hc with
      | [c, d], ⟨hc, hd', _⟩ =>
       have e1 := VR.rslc.1 hc
       rw [hg] at e1
       subst e1
       refine ⟨_, VR.ptr_of (A0.rig1.2 rfl), ?_⟩
       rw [VR.int hd']
       simp [Instr.indexAt, asIntOf, run_underlying (show P.underlying r.t = _ from hd), hkn, oke.sizeOf, Addr.add_lit]
    · exact h2.elim
 · split at h2
   · rename_i b o ki i n e hty
     rw [hty] at hd
     obtain ⟨re, hre, h3⟩ := onS_ok h2
     obtain ⟨oke, rfl⟩ := hT.look hre
     rw [letR_eq] at h3
     obtain ⟨k, rfl, hkn, hk⟩ := h3
     refine ⟨_, hk, fun F B w0 m n w cs H hc => ?_⟩
     match cs, hc with
     | [c, d], ⟨hc, hd', _⟩ =>
      obtain ⟨c', hc', rfl⟩ := VR.ptr hc
      refine ⟨_, VR.ptr_of (hc'.plus (k * re.size)), ?_⟩
      rw [VR.int hd']
      simp [Instr.indexAt, asIntOf, Instr.sureAddr, run_underlying (show P.underlying r.t = _ from hd), hkn, oke.sizeOf]
   · exact h2.elim
 · exact h2.elim
def bnd (v : Option Value) (dflt : Nat) (K : Nat → Prop) : Prop :=
 match v with
 | none => K dflt
 | some (.int _ i) => ∃ k : Nat, (k : Int) = i ∧ K k
 | _ => False
theorem bnd_ok {v : Option Value} {d : Nat} {K : Nat → Prop} (h : bnd v d K) : ∃ k, K k ∧ (v = none ∧ k = d ∨ ∃ kd, v = some (.int kd k)) := by
 unfold bnd at h
 split at h
 · exact ⟨_, h, .inl ⟨rfl, rfl⟩⟩
 · obtain ⟨k, rfl, h⟩ := h; exact ⟨k, h, .inr ⟨_, rfl⟩⟩
 · exact h.elim
def sfrom (s : ByteArray) (l : Nat) : ByteArray := s.extract l s.size
theorem size_sfrom (s : ByteArray) (l : Nat) : (sfrom s l).size = s.size - l := by simp [sfrom, ByteArray.size_extract]
theorem bytesOf_sfrom (s : ByteArray) (l : Nat) : bytesOf (sfrom s l) = (bytesOf s).drop l := by
 rw [sfrom, bytesOf_extract, List.take_of_length_le (by rw [bytesOf_length]; exact Nat.le_refl _)]
def vcSlice (T : Tab) (xT : TypeId) (v : Value) (lo hi mx : Option Value) (K : Value → Prop) : Prop :=
 onS (lkR T xT) fun r => match v with
 | .string s => match r.ty, mx with
  | .string, none => match hi with
   | none => bnd lo 0 fun l => l ≤ s.size ∧ K (.string (sfrom s l))
   | some hv => bnd lo 0 fun l => bnd (some hv) s.size fun h => l ≤ h ∧ h ≤ s.size ∧ K (.string (s.extract l h))
  | _, _ => False
 | .slice none n c => match r.ty, lo, hi, mx with
  | .slice e, _, _, none => onS (lkR T e) fun re => bnd lo 0 fun l => bnd hi n fun h => n = 0 ∧ c = 0 ∧ l = 0 ∧ h = 0 ∧ K (.slice none 0 0)
  | _, _, _, _ => False
 | .slice (some ⟨b, o, some (Nat.succ (Nat.succ (Nat.succ Nat.zero)))⟩) n c => match r.ty, lo, mx with
  | .slice e, none, none => onS (lkR T e) fun re => bnd hi n fun h => h ≤ c ∧ (weird b = none → n = 0 ∧ c = 0) ∧ K (.slice (some ⟨b, o, some 3⟩) h c)
  | _, _, _ => False
 | .slice (some ⟨b, o, q⟩) n c => nr q <| match r.ty, lo, mx with
  | .slice e, none, none => onS (lkR T e) fun re => bnd hi n fun h => h ≤ c ∧ K (.slice (some ⟨b, o, q⟩) h c)
  | .slice e, some _, none => onS (lkR T e) fun re => letR re fun size _ => bnd lo 0 fun l => bnd hi n fun h => l ≤ h ∧ h ≤ c ∧ (l < c → K (.slice (some ⟨b, o + l * size, q⟩) (h - l) (c - l))) ∧ (l = c → K (.slice (some ⟨b, o, q⟩) 0 0))
  | _, _, _ => False
 | .pointer (some ⟨b, o, none⟩) => match r.ty, lo, mx with
  | .array n e, none, none => onS (lkR T e) fun re => bnd hi n fun h => h ≤ n ∧ K (.slice (some ⟨b, o, none⟩) h n)
  | _, _, _ => False
 | _ => False
def optR (R : Value → Value → Prop) : Option Value → Option Value → Prop
 | none, none => True
 | some v, some c => R v c
 | _, _ => False
theorem optR.int {m : BM} {v c : Option Value} (h : optR (VR m) v c) : (v = none → c = none) ∧ ∀ {k : IntKind} {n : Int}, v = some (.int k n) → c = some (.int k n) := by
 cases v <;> cases c <;> first | exact h.elim | skip
 · exact ⟨fun _ => rfl, fun e => nomatch e⟩
 · refine ⟨fun e => (nomatch e), fun e => ?_⟩
   cases e
   rw [VR.int (m := m) h]
theorem run_bound {P : Program} (w : World) (k : IntKind) (i y : Nat) (code : BoundsCode) (h : i ≤ y) : (Instr.sliceBound (.int k i) y code).run P w = .ok i w := by
 simp [Instr.sliceBound, asIntOf, h]
theorem run_bounds {P : Program} (w : World) (isS : Bool) (len cap l h : Nat) (lo hi : Option Value) (hlo : lo = none ∧ l = 0 ∨ ∃ k, lo = some (.int k l)) (hhi : hi = none ∧ h = len ∨ ∃ k, hi = some (.int k h))
 (h1 : l ≤ h) (h2 : h ≤ cap) : (Instr.sliceBounds isS len cap lo hi none).run P w = .ok (l, h, cap) w := by
 rcases hlo with ⟨rfl, rfl⟩ | ⟨k, rfl⟩ <;> rcases hhi with ⟨rfl, rfl⟩ | ⟨k', rfl⟩ <;> simp [Instr.sliceBounds, run_bound, h1, h2]
theorem vcSlice_ok {P : Program} {T : Tab} (hT : TabOk P T) {hp : HP} {xT : TypeId} {v : Value} {lo hi mx : Option Value} {K : Value → Prop} (h : vcSlice T xT v lo hi mx K) :
 ∃ u, K u ∧ ∀ F B w0 m n w c lo' hi' mx', HRel F B w0 m hp n w → VR m v c → optR (VR m) lo lo' → optR (VR m) hi hi' → optR (VR m) mx mx' → ∃ d, VR m u d ∧ (Instr.sliceAt xT c lo' hi' mx').run P w = .ok d w := by
 obtain ⟨r, hr, h2⟩ := onS_ok h
 clear h
 obtain ⟨ok, rfl⟩ := hT.look hr
 have hd := ok.desc
 have tr : ∀ {m : BM} {v c : Option Value} {k d : Nat}, optR (VR m) v c → (v = none ∧ k = d ∨ ∃ kd, v = some (.int kd k)) → (c = none ∧ k = d ∨ ∃ kd, c = some (.int kd k)) := by
  intro m v c k d ho hv
  rcases hv with ⟨e, rfl⟩ | ⟨kd, e⟩
  · exact .inl ⟨ho.int.1 e, rfl⟩
  · exact .inr ⟨kd, ho.int.2 e⟩
 split at h2
 · rename_i s
   split at h2
   · rename_i hty
     rw [hty] at hd
     split at h2
     · obtain ⟨l, h3, hl⟩ := bnd_ok h2
       obtain ⟨h5, hk⟩ := h3
       refine ⟨_, hk, fun F B w0 m n w c lo' hi' mx' H hc q1 q2 q3 => ⟨_, VR.same rfl, ?_⟩⟩
       rw [hc.str, q3.int.1 rfl]
       simp [Instr.sliceAt, run_underlying (show P.underlying r.t = _ from hd), Instr.slice, run_bounds w false s.size s.size l s.size lo' hi' (tr q1 hl) (tr q2 (.inl ⟨rfl, rfl⟩)) h5 (Nat.le_refl _), sfrom]
     · rename_i hv
       obtain ⟨l, h3, hl⟩ := bnd_ok h2
       obtain ⟨hh, h4, hhi⟩ := bnd_ok h3
       obtain ⟨h5, h6, hk⟩ := h4
       refine ⟨_, hk, fun F B w0 m n w c lo' hi' mx' H hc q1 q2 q3 => ⟨_, VR.same rfl, ?_⟩⟩
       rw [hc.str, q3.int.1 rfl]
       simp [Instr.sliceAt, run_underlying (show P.underlying r.t = _ from hd), Instr.slice, run_bounds w false s.size s.size l hh lo' hi' (tr q1 hl) (tr q2 hhi) h5 h6]
   · exact h2.elim
 · split at h2
   · rename_i n c e hty
     rw [hty] at hd
     obtain ⟨re, hre, h3⟩ := onS_ok h2
     obtain ⟨oke, rfl⟩ := hT.look hre
     obtain ⟨l, h4, hl⟩ := bnd_ok h3
     obtain ⟨hh, h5, hhi⟩ := bnd_ok h4
     obtain ⟨rfl, rfl, rfl, rfl, hk⟩ := h5
     refine ⟨_, hk, fun F B w0 m n w c lo' hi' mx' H hc q1 q2 q3 => ⟨_, VR.same rfl, ?_⟩⟩
     rw [(VR.flat rfl).1 hc, q3.int.1 rfl]
     simp [Instr.sliceAt, run_underlying (show P.underlying r.t = _ from hd), Instr.slice, run_bounds w true 0 0 0 0 lo' hi' (tr q1 hl) (tr q2 hhi) (Nat.le_refl _) (Nat.le_refl _), oke.sizeOf]
   · exact h2.elim
 · split at h2
   · rename_i b o n c x1 x2 x3 e hty
     rw [hty] at hd
     obtain ⟨re, hre, h3⟩ := onS_ok h2
     obtain ⟨oke, rfl⟩ := hT.look hre
     obtain ⟨hh, h4, hhi⟩ := bnd_ok h3
     obtain ⟨h5, h6, hk⟩ := h4
     refine ⟨_, hk, fun F B w0 m n' w c' lo' hi' mx' H hc q1 q2 q3 => ?_⟩
     have e1 : c' = .slice (weird b) n c := VR.rslc.1 hc
     have e2 : ∀ d, d = .slice (weird b) hh c → VR m (.slice (some ⟨b, o, some 3⟩) hh c) d := fun d hd => VR.rslc.2 hd
     refine ⟨_, e2 _ rfl, ?_⟩
     subst e1
     rw [q3.int.1 rfl]
     cases hw : weird b with
     | none =>
      obtain ⟨rfl, rfl⟩ := h6 hw
      obtain rfl : hh = 0 := by omega
      simp [Instr.sliceAt, run_underlying (show P.underlying r.t = _ from hd), Instr.slice, run_bounds w true 0 0 0 0 lo' hi' (tr q1 (.inl ⟨rfl, rfl⟩)) (tr q2 hhi) (Nat.le_refl _) (Nat.le_refl _), oke.sizeOf]
     | some a =>
      simp [Instr.sliceAt, run_underlying (show P.underlying r.t = _ from hd), Instr.slice, run_bounds w true n c 0 hh lo' hi' (tr q1 (.inl ⟨rfl, rfl⟩)) (tr q2 hhi) (Nat.zero_le _) h5, oke.sizeOf, Addr.add_zero']
   · exact h2.elim
 · have hr := (nr_ok h2).1
   replace h2 := (nr_ok h2).2
   split at h2
   · rename_i b o q n c x0 x1 x2 x3 e hty
     rw [hty] at hd
     obtain ⟨re, hre, h3⟩ := onS_ok h2
     obtain ⟨oke, rfl⟩ := hT.look hre
     obtain ⟨hh, h4, hhi⟩ := bnd_ok h3
     obtain ⟨h5, hk⟩ := h4
     refine ⟨_, hk, fun F B w0 m n' w c' lo' hi' mx' H hc q1 q2 q3 => ?_⟩
     rcases hc.slc_or hr with ⟨rfl, rfl, g, rfl, hm, rfl⟩ | ⟨g, s, hm, hs, rfl⟩
     · obtain rfl : hh = 0 := by omega
       refine ⟨_, VR.slc_nil hm, ?_⟩
       rw [q3.int.1 rfl]
       simp [Instr.sliceAt, run_underlying (show P.underlying r.t = _ from hd), Instr.slice, run_bounds w true 0 0 0 0 lo' hi' (tr q1 (.inl ⟨rfl, rfl⟩)) (tr q2 hhi) (Nat.le_refl _) (Nat.le_refl _), oke.sizeOf]
     refine ⟨_, VR.slc_at hm hs q hr _ _, ?_⟩
     rw [q3.int.1 rfl]
     simp [Instr.sliceAt, run_underlying (show P.underlying r.t = _ from hd), Instr.slice, run_bounds w true n c 0 hh lo' hi' (tr q1 (.inl ⟨rfl, rfl⟩)) (tr q2 hhi) (Nat.zero_le _) h5, oke.sizeOf, Addr.add_zero']
   · rename_i b o q n c x0 x1 x2 x3 e lo1 hty
     rw [hty] at hd
     obtain ⟨re, hre, h3⟩ := onS_ok h2
     obtain ⟨oke, rfl⟩ := hT.look hre
     rw [letR_eq] at h3
     obtain ⟨l, h4, hl⟩ := bnd_ok h3
     obtain ⟨hh, h5, hhi⟩ := bnd_ok h4
     obtain ⟨h6, h7, k1, k2⟩ := h5
     by_cases hlc : l < c
     · refine ⟨_, k1 hlc, fun F B w0 m n' w c' lo' hi' mx' H hc q1 q2 q3 => ?_⟩
       obtain ⟨a', ha, rfl⟩ := hc.slc_pos hr (.inr (by omega))
       refine ⟨_, VR.slc_of (ha.plus _) _ _ _ hr, ?_⟩
       rw [q3.int.1 rfl]
       simp [Instr.sliceAt, run_underlying (show P.underlying r.t = _ from hd), Instr.slice, run_bounds w true n c l hh lo' hi' (tr q1 hl) (tr q2 hhi) h6 h7, oke.sizeOf, show ¬ c = l by omega]
     · have hc' : l = c := by omega
       refine ⟨_, k2 hc', fun F B w0 m n' w c' lo' hi' mx' H hc q1 q2 q3 => ?_⟩
       subst hc'
       obtain rfl : hh = l := by omega
       rcases hc.slc_or hr with ⟨rfl, h0, g, rfl, hm, rfl⟩ | ⟨g, s, hm, hs, rfl⟩
       · subst h0
         refine ⟨_, VR.slc_nil hm, ?_⟩
         rw [q3.int.1 rfl]
         simp [Instr.sliceAt, run_underlying (show P.underlying r.t = _ from hd), Instr.slice, run_bounds w true 0 0 0 0 lo' hi' (tr q1 hl) (tr q2 hhi) (Nat.le_refl _) (Nat.le_refl _), oke.sizeOf]
       refine ⟨_, VR.slc_at hm hs q hr _ _, ?_⟩
       rw [q3.int.1 rfl]
       simp [Instr.sliceAt, run_underlying (show P.underlying r.t = _ from hd), Instr.slice, run_bounds w true n hh hh hh lo' hi' (tr q1 hl) (tr q2 hhi) h6 h7, oke.sizeOf]
   · exact h2.elim
 · split at h2
   · rename_i b o x1 x2 x3 n e hty
     rw [hty] at hd
     obtain ⟨re, hre, h3⟩ := onS_ok h2
     obtain ⟨oke, rfl⟩ := hT.look hre
     obtain ⟨hh, h4, hhi⟩ := bnd_ok h3
     obtain ⟨h5, hk⟩ := h4
     refine ⟨_, hk, fun F B w0 m n' w c' lo' hi' mx' H hc q1 q2 q3 => ?_⟩
     obtain ⟨a', ha, rfl⟩ := hc.ptr
     refine ⟨_, VR.slc_of ha _ _ none rfl, ?_⟩
     rw [q3.int.1 rfl]
     simp [Instr.sliceAt, run_underlying (show P.underlying r.t = _ from hd), Instr.sureAddr, run_bounds w false n n 0 hh lo' hi' (tr q1 (.inl ⟨rfl, rfl⟩)) (tr q2 hhi) (Nat.zero_le _) h5, oke.sizeOf, Addr.add_zero']
   · exact h2.elim
 · exact h2.elim
def vcLen (T : Tab) (hp : HP) (xT : TypeId) (v : Value) (K : Value → Prop) : Prop :=
 onS (lkR T xT) fun r => match v with
 | .map (some i) => onS (lkH hp i) fun it => match it with
  | .mp ks _ => match r.ty with | .map _ _ => K (.int .i64 (ks.length : Nat)) | _ => False
  | _ => False
 | .string s => match r.ty with | .string => K (.int .i64 (s.size : Nat)) | _ => False
 | .slice _ n _ => match r.ty with | .slice _ => K (.int .i64 (n : Nat)) | _ => False
 | .agg _ => match r.ty with | .array n _ => K (.int .i64 (n : Nat)) | _ => False
 | _ => False
theorem vcLen_ok {P : Program} {T : Tab} (hT : TabOk P T) {hp : HP} {xT ty : TypeId} {v : Value} {K : Value → Prop} (h : vcLen T hp xT v K) :
 ∃ u, K u ∧ Out P hp [v] (fun cs => Builtin.len_ #[xT] ty #[cs.getD 0 undef]) u := by
 obtain ⟨r, hr, h2⟩ := onS_ok h
 clear h
 obtain ⟨ok, rfl⟩ := hT.look hr
 have hd := ok.desc
 split at h2
 · rename_i i
   obtain ⟨it, hit, h3⟩ := onS_ok h2
   split at h3
   · rename_i ks vs
     split at h3
     · rename_i kt et hty
       rw [hty] at hd
       refine ⟨_, h3, fun F B w0 m n w cs H hc => ?_⟩
       match cs, hc with
       | [c], ⟨hc, _⟩ =>
        refine ⟨_, VR.same rfl, ?_⟩
        obtain ⟨d, hd2, rfl⟩ : ∃ d, A0 m ⟨i, 0, none⟩ d ∧ c = .map (some d.block) := (VR.of0 rfl).1 hc
        obtain ⟨g, s, hm, hs, rfl⟩ := hd2.old
        obtain ⟨g2, s2, hm2, okI⟩ := H.dom i _ hit
        obtain ⟨rfl, rfl⟩ := H.fn _ _ _ _ _ hm hm2
        obtain ⟨_, _, E, clk, ⟨hb, _⟩, hks, _⟩ := okI
        have hl : ks.length = E.size := by rw [← hks]; simp
        simp [Builtin.len_, run_underlying (show P.underlying r.t = _ from hd), goInt, MapKept.run_getObj_map hb, hl]
     · exact h3.elim
   · exact h3.elim
 · split at h2
   · rename_i hty
     rw [hty] at hd
     refine ⟨_, h2, fun F B w0 m n w cs H hc => ?_⟩
     match cs, hc with
     | [c], ⟨hc, _⟩ =>
      refine ⟨_, VR.same rfl, ?_⟩
      rw [VR.str hc]
      simp [Builtin.len_, run_underlying (show P.underlying r.t = _ from hd), goInt]
   · exact h2.elim
 · rename_i a n k
   split at h2
   · rename_i hty
     rw [hty] at hd
     refine ⟨_, h2, fun F B w0 m n' w cs H hc => ?_⟩
     match cs, hc with
     | [c], ⟨hc, _⟩ =>
      refine ⟨_, VR.same rfl, ?_⟩
      cases a with
      | none => rw [(VR.flat rfl).1 hc]; simp [Builtin.len_, run_underlying (show P.underlying r.t = _ from hd), goInt]
      | some a => obtain ⟨b, rfl⟩ := VR.slc_any (b := a.block) (o := a.off) (p := a.spot) hc; simp [Builtin.len_, run_underlying (show P.underlying r.t = _ from hd), goInt]
   · exact h2.elim
 · split at h2
   · rename_i hty
     rw [hty] at hd
     refine ⟨_, h2, fun F B w0 m n w cs H hc => ?_⟩
     match cs, hc with
     | [c], ⟨hc, _⟩ =>
      refine ⟨_, VR.same rfl, ?_⟩
      obtain ⟨l, _, rfl⟩ := VR.agg hc
      simp [Builtin.len_, run_underlying (show P.underlying r.t = _ from hd), goInt]
   · exact h2.elim
 · exact h2.elim
def vcCap (T : Tab) (xT : TypeId) (v : Value) (K : Value → Prop) : Prop :=
 onS (lkR T xT) fun r => match v with
 | .slice _ _ k => match r.ty with | .slice _ => K (.int .i64 (k : Nat)) | _ => False
 | _ => False
theorem vcCap_ok {P : Program} {T : Tab} (hT : TabOk P T) {hp : HP} {xT ty : TypeId} {v : Value} {K : Value → Prop} (h : vcCap T xT v K) :
 ∃ u, K u ∧ Out P hp [v] (fun cs => Builtin.cap_ #[xT] ty #[cs.getD 0 undef]) u := by
 obtain ⟨r, hr, h2⟩ := onS_ok h
 clear h
 obtain ⟨ok, rfl⟩ := hT.look hr
 have hd := ok.desc
 split at h2
 · rename_i a n k
   split at h2
   · rename_i hty
     rw [hty] at hd
     refine ⟨_, h2, fun F B w0 m n' w cs H hc => ?_⟩
     match cs, hc with
     | [c], ⟨hc, _⟩ =>
      refine ⟨_, VR.same rfl, ?_⟩
      cases a with
      | none => rw [(VR.flat rfl).1 hc]; simp [Builtin.cap_, run_underlying (show P.underlying r.t = _ from hd), goInt]
      | some a => obtain ⟨b, rfl⟩ := VR.slc_any (b := a.block) (o := a.off) (p := a.spot) hc; simp [Builtin.cap_, run_underlying (show P.underlying r.t = _ from hd), goInt]
   · exact h2.elim
 · exact h2.elim
def vcMin (mx : Bool) (v u : Value) (K : Value → Prop) : Prop :=
 match v, u with
 | .int k x, .int k' y => sameK k k' (∃ r, r = (match mx with | true => max x y | false => min x y) ∧ K (.int k r))
 | _, _ => False
theorem vcMin_ok {P : Program} {hp : HP} {v u : Value} {K : Value → Prop} (ts : Array TypeId) (ty : TypeId) (h : vcMin false v u K) :
 ∃ x, K x ∧ Out P hp [v, u] (fun cs => Builtin.min_ ts ty #[cs.getD 0 undef, cs.getD 1 undef]) x := by
 unfold vcMin at h
 split at h
 · obtain ⟨rfl, r, rfl, hk⟩ := sameK_ok h
   refine ⟨_, hk, fun F B w0 m n w cs H hc => ?_⟩
   match cs, hc with
   | [c, d], ⟨hc, hd, _⟩ =>
    refine ⟨_, VR.same rfl, ?_⟩
    rw [VR.int hc, VR.int hd]
    simp only [Builtin.min_, List.getD_cons_zero, List.getD_cons_succ, List.foldlM_cons, List.foldlM_nil, Builtin.min2]
    simp
    rw [Int.min_def]
    split <;> split <;> omega
 · exact h.elim
theorem vcMax_ok {P : Program} {hp : HP} {v u : Value} {K : Value → Prop} (ts : Array TypeId) (ty : TypeId) (h : vcMin true v u K) :
 ∃ x, K x ∧ Out P hp [v, u] (fun cs => Builtin.max_ ts ty #[cs.getD 0 undef, cs.getD 1 undef]) x := by
 unfold vcMin at h
 split at h
 · obtain ⟨rfl, r, rfl, hk⟩ := sameK_ok h
   refine ⟨_, hk, fun F B w0 m n w cs H hc => ?_⟩
   match cs, hc with
   | [c, d], ⟨hc, hd, _⟩ =>
    refine ⟨_, VR.same rfl, ?_⟩
    rw [VR.int hc, VR.int hd]
    simp only [Builtin.max_, List.getD_cons_zero, List.getD_cons_succ, List.foldlM_cons, List.foldlM_nil, Builtin.max2]
    simp
    rw [Int.max_def]
    split <;> split <;> omega
 · exact h.elim
end Go.Proofs.YtelolcagncgfpaaGreat
