/- A generator of conditions for a walk, part 4b: maps that are looked into. No program in sight. -/
import Derived.Test.YtelolcagncgfpaaGreatEngD
import Derived.MapKept
namespace Go.Proofs.YtelolcagncgfpaaGreat
open Go.RowKit Go.MapKept
set_option linter.unusedSimpArgs false
set_option linter.unusedVariables false
def keyLike : Value → Value → Bool
 | .int k _, .int k' _ => Nat.beq (kN k) (kN k')
 | .string _, .string _ => true
 | _, _ => false
def keyTy : Ty → Value → Bool
 | .int k, .int k' _ => Nat.beq (kN k) (kN k')
 | .string, .string _ => true
 | _, _ => false
theorem kN_inj {k k' : IntKind} (h : Nat.beq (kN k) (kN k') = true) : k = k' := by cases k <;> cases k' <;> first | rfl | cases h
theorem keyTy_ok {P : Program} {rk : Row} (ok : RowOk P rk) {k : Value} (h : keyTy rk.ty k = true) : ∃ d, P.underlying rk.t = some d ∧ IsKey d k ∧ ∀ u, keyLike k u = true → IsKey d u := by
 have hd := ok.desc
 revert hd
 cases e : rk.ty <;> intro hd <;> cases k <;> rw [e] at h <;> first | cases h | skip
 · rename_i k n k'
   obtain rfl := kN_inj h
   refine ⟨_, hd, rfl, fun u hu => ?_⟩
   cases u <;> first | exact (kN_inj hu).symm | (cases hu; done)
 · refine ⟨_, hd, trivial, fun u hu => ?_⟩
   cases u <;> first | exact trivial | (cases hu; done)
theorem findNow_first {d : TypeDesc} {k : Value} (hk : IsKey d k) : ∀ (l : List MapEntry) (i : Nat), (∀ x ∈ l, IsKey d x.key) →
 (Instr.findNow d k l i = some none ∧ ∀ x ∈ l, x.key ≠ k) ∨ ∃ j e, Instr.findNow d k l i = some (some (i + j, e.val)) ∧ l[j]? = some e ∧ e.key = k ∧ ∀ a x, a < j → l[a]? = some x → x.key ≠ k
 | [], _, _ => .inl ⟨rfl, by simp⟩
 | e :: es, i, h => by
  obtain ⟨r, hr, hiff⟩ := sameNow_of_keys hk (h e (.head _))
  cases r with
  | true => exact .inr ⟨0, e, by simp [Instr.findNow, hr], rfl, (hiff.1 rfl).symm, fun a x ha => by omega⟩
  | false =>
   have hne : e.key ≠ k := fun q => by have := hiff.2 q.symm; cases this
   rcases findNow_first hk es (i + 1) (fun x hx => h x (.tail _ hx)) with ⟨h1, h2⟩ | ⟨j, e', h1, h2, h3, h4⟩
   · exact .inl ⟨by simp [Instr.findNow, hr, h1], fun x hx => by
      cases hx with
      | head => exact hne
      | tail _ hx => exact h2 x hx⟩
   · refine .inr ⟨j + 1, e', by simp [Instr.findNow, hr, h1]; omega, by simpa using h2, h3, fun a x ha hx => ?_⟩
     cases a with
     | zero => simp at hx; subst hx; exact hne
     | succ a => exact h4 a x (by omega) (by simpa using hx)
def FirstAt (ks : List Value) (k : Value) (j : Nat) : Prop := ks[j]? = some k ∧ ∀ a u, a < j → ks[a]? = some u → u ≠ k
theorem first_or : ∀ (ks : List Value) (k : Value), (∀ u ∈ ks, u ≠ k) ∨ ∃ j, FirstAt ks k j
 | [], k => .inl fun u hu => by cases hu
 | u :: ks, k => by
  by_cases h : u = k
  · subst h; exact .inr ⟨0, rfl, fun a x ha => by omega⟩
  · rcases first_or ks k with h2 | ⟨j, h2, h3⟩
    · exact .inl fun x hx => by
       cases hx with
       | head => exact h
       | tail _ hx => exact h2 x hx
    · refine .inr ⟨j + 1, by simpa using h2, fun a x ha hx => ?_⟩
      cases a with
      | zero => simp at hx; subst hx; exact h
      | succ a => exact h3 a x (by omega) (by simpa using hx)
theorem FirstAt.uniq {ks : List Value} {k : Value} {i j : Nat} (h : FirstAt ks k i) (h' : FirstAt ks k j) : i = j := by
 rcases Nat.lt_trichotomy i j with hl | rfl | hl
 · exact absurd rfl (h'.2 i k hl h.1)
 · rfl
 · exact absurd rfl (h.2 j k hl h'.1)
theorem FirstAt.mem {ks : List Value} {k : Value} {i : Nat} (h : FirstAt ks k i) : ∃ u ∈ ks, u = k := ⟨k, List.mem_of_getElem? h.1, rfl⟩
structure LookOb (ks vs : List Value) (k : Value) (Kf : Value → Prop) (Kn : Prop) : Prop where
 kinds : ∀ u ∈ ks, keyLike k u = true
 len : ks.length = vs.length
 found : ∀ j v, FirstAt ks k j → vs[j]? = some v → Kf v
 none : (∀ u ∈ ks, u ≠ k) → Kn
def pairV (ok : Bool) (v : Value) (b : Bool) : Value := match ok with | true => .tuple #[v, .bool b] | false => v
def vcLookup (T : Tab) (hp : HP) (xT : TypeId) (v k : Value) (ok : Bool) (K : Value → Prop) : Prop :=
 match v with
 | .map (some i) => onS (lkH hp i) fun it => match it with
  | .mp ks vs => onS (lkR T xT) fun r => match r.ty with
   | .map kt et => onS (lkR T kt) fun rk => onS (lkR T et) fun re => match keyTy rk.ty k with
    | true => LookOb ks vs k (fun v => forceV v fun v => K (pairV ok v true)) (forceV re.zero fun z => match flatR z with | true => K (pairV ok z false) | false => False)
    | false => False
   | _ => False
  | _ => False
 | _ => False
theorem VR.mapv {m : BM} {i : Nat} {c : Value} (h : VR m (.map (some i)) c) : ∃ g s, m i g s ∧ s ≠ nilS ∧ c = .map (some g) := by
 obtain ⟨d, hd, rfl⟩ : ∃ d, A0 m ⟨i, 0, none⟩ d ∧ c = .map (some d.block) := (VR.of0 rfl).1 h
 obtain ⟨g, s, hm, hs, rfl⟩ := hd.old
 exact ⟨g, s, hm, hs, rfl⟩
theorem VR.map_of {m : BM} {i g : Nat} (h : m i g 0) : VR m (.map (some i)) (.map (some g)) := (VR.of0 rfl).2 ⟨⟨g, 0 + sh 0, none⟩, A0.in h zero_ne_nilS, rfl⟩
theorem VR.pair {m : BM} {v c : Value} (ok : Bool) (b : Bool) (h1 : noTup v = true) (h : VR m v c) : VR m (pairV ok v b) (if ok then .tuple #[c, .bool b] else c) := by
 cases ok with
 | false => exact h
 | true => exact ⟨[c, .bool b], ⟨(VR.of1 h1).1 h, (V1.flat rfl).2 rfl, trivial⟩, rfl⟩
theorem keys_of {E : Array MapEntry} {ks : List Value} (h : E.toList.map (fun e => e.key) = ks) {d : TypeDesc} (hk : ∀ u ∈ ks, IsKey d u) : ∀ x ∈ E.toList, IsKey d x.key := fun x hx => hk _ (h ▸ List.mem_map_of_mem hx)
theorem key_get {E : Array MapEntry} {ks : List Value} (h : E.toList.map (fun e => e.key) = ks) (a : Nat) : ks[a]? = (E.toList[a]?).map fun e => e.key := by rw [← h, List.getElem?_map]
theorem find_where {E : Array MapEntry} {ks : List Value} (h : E.toList.map (fun e => e.key) = ks) {d : TypeDesc} {k : Value} (hk : IsKey d k) (hks : ∀ u ∈ ks, IsKey d u) :
 (Instr.findNow d k E.toList 0 = some none ∧ ∀ u ∈ ks, u ≠ k) ∨ ∃ j e, Instr.findNow d k E.toList 0 = some (some (j, e.val)) ∧ E.toList[j]? = some e ∧ e.key = k ∧ FirstAt ks k j := by
 rcases findNow_first hk E.toList 0 (keys_of h hks) with ⟨h1, h2⟩ | ⟨j, e, h1, h2, h3, h4⟩
 · refine .inl ⟨h1, fun u hu => ?_⟩
   rw [← h] at hu
   obtain ⟨x, hx, rfl⟩ := List.mem_map.1 hu
   exact h2 x hx
 · refine .inr ⟨j, e, by rw [h1, Nat.zero_add], h2, h3, ?_, fun a u ha hu => ?_⟩
   · rw [key_get h, h2, Option.map_some, h3]
   · rw [key_get h] at hu
     cases hx : E.toList[a]? with
     | none => rw [hx] at hu; cases hu
     | some x => rw [hx] at hu; simp at hu; subst hu; exact h4 a x ha hx
theorem vcLookup_ok {P : Program} {T : Tab} (hT : TabOk P T) {hp : HP} {xT : TypeId} {v k : Value} {ok : Bool} {K : Value → Prop} (h : vcLookup T hp xT v k ok K) :
 ∃ u, K u ∧ Out P hp [v, k] (fun cs => Instr.lookup xT (cs.getD 0 undef) (cs.getD 1 undef) ok) u := by
 unfold vcLookup at h
 split at h
 · rename_i i
   obtain ⟨it, hit, h2⟩ := onS_ok h
   split at h2
   · rename_i ks vs
     obtain ⟨r, hr, h3⟩ := onS_ok h2
     obtain ⟨okr, rfl⟩ := hT.look hr
     have hd := okr.desc
     split at h3
     · rename_i kt et hty
       rw [hty] at hd
       obtain ⟨rk, hrk, h4⟩ := onS_ok h3
       obtain ⟨okk, rfl⟩ := hT.look hrk
       obtain ⟨re, hre, h5⟩ := onS_ok h4
       obtain ⟨oke, rfl⟩ := hT.look hre
       obtain ⟨hkt, L⟩ := ifLeaf h5
       obtain ⟨d, hdk, hik, hil⟩ := keyTy_ok okk hkt
       have hkf : flatR k = true := by cases k <;> first | rfl | (cases e : rk.ty <;> rw [e] at hkt <;> cases hkt)
       have run : ∀ F B w0 m n w cs, HRel F B w0 m hp n w → LR (VR m) [.map (some i), k] cs → ∃ g E clk, cs = [.map (some g), k] ∧ w.heap[g]? = some (.map E clk) ∧ E.toList.map (fun e => e.key) = ks ∧ LR (V1 m) vs (E.toList.map fun e => e.val) := by
        intro F B w0 m n w cs H hcs
        match cs, hcs with
        | [c, ck], ⟨hc, hck, _⟩ =>
         obtain ⟨g, s, hm, hs, rfl⟩ := hc.mapv
         obtain rfl := (VR.flat hkf).1 hck
         obtain ⟨g2, s2, hm2, okI⟩ := H.dom i _ hit
         obtain ⟨rfl, rfl⟩ := H.fn _ _ _ _ _ hm hm2
         obtain ⟨_, _, E, clk, ⟨h1, _⟩, h2, h3⟩ := okI
         exact ⟨g, E, clk, rfl, h1, h2, h3⟩
       have look : ∀ (w : World) (g : Nat) (E : Array MapEntry) (clk : Nat), w.heap[g]? = some (.map E clk) → E.toList.map (fun e => e.key) = ks →
        (∃ j e, FirstAt ks k j ∧ E.toList[j]? = some e ∧ (Instr.lookup r.t (.map (some g)) k ok).run P w = .ok (if ok then .tuple #[e.val, .bool true] else e.val) w) ∨
        ((∀ u ∈ ks, u ≠ k) ∧ (Instr.lookup r.t (.map (some g)) k ok).run P w = .ok (if ok then .tuple #[re.zero, .bool false] else re.zero) w) := by
        intro w g E clk hb hks
        have hz := oke.zeroValue w
        rcases find_where hks hik (fun u hu => hil u (L.kinds u hu)) with ⟨h1, h2⟩ | ⟨j, e, h1, h2, h3, h4⟩
        · refine .inr ⟨h2, ?_⟩
          simp only [Instr.lookup, Sem.run_bind, run_underlying (show P.underlying r.t = _ from hd), Result.andThen_ok, MapKept.run_getObj_map hb, Sem.run_pure, MapKept.run_checkKey hdk hik, MapKept.run_findKey hdk h1, hz]
        · refine .inl ⟨j, e, h4, h2, ?_⟩
          simp only [Instr.lookup, Sem.run_bind, run_underlying (show P.underlying r.t = _ from hd), Result.andThen_ok, MapKept.run_getObj_map hb, Sem.run_pure, MapKept.run_checkKey hdk hik, MapKept.run_findKey hdk h1]
       rcases first_or ks k with hno | ⟨j, hj⟩
       · have h6 := forceV_ok (L.none hno)
         obtain ⟨h7, h8⟩ := ifLeaf h6.1
         refine ⟨_, h8, fun F B w0 m n w cs H hcs => ?_⟩
         obtain ⟨g, E, clk, rfl, hb, hks, _⟩ := run F B w0 m n w cs H hcs
         rcases look w g E clk hb hks with ⟨j, e, h1, _⟩ | ⟨_, h2⟩
         · obtain ⟨u, hu, he⟩ := h1.mem; exact absurd he (hno u hu)
         · exact ⟨_, VR.pair ok false h6.2.1 (VR.same h7), h2⟩
       · have hlt : j < vs.length := by
          have := (List.getElem?_eq_some_iff.1 hj.1).1
          rw [← L.len]; exact this
         have hv := List.getElem?_eq_getElem hlt
         have h6 := forceV_ok (L.found j _ hj hv)
         refine ⟨_, h6.1, fun F B w0 m n w cs H hcs => ?_⟩
         obtain ⟨g, E, clk, rfl, hb, hks, hvs⟩ := run F B w0 m n w cs H hcs
         rcases look w g E clk hb hks with ⟨j', e, h1, h2, h3⟩ | ⟨hno, _⟩
         · obtain rfl := hj.uniq h1
           obtain ⟨c, hc, hvc⟩ := hvs.get hv
           rw [List.getElem?_map, h2, Option.map_some] at hc
           obtain rfl := Option.some.inj hc
           exact ⟨_, VR.pair ok true h6.2.1 ((VR.of1 h6.2.1).2 hvc), h3⟩
         · obtain ⟨u, hu, he⟩ := hj.mem; exact absurd he (hno u hu)
     · exact h3.elim
   · exact h2.elim
 · exact h.elim
end Go.Proofs.YtelolcagncgfpaaGreat
