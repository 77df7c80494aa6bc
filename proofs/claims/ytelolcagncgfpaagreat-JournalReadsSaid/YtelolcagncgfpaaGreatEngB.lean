/- A generator of conditions for a walk, part 2: a table of types; operations that only yield a value. No program in sight. -/
import Derived.Test.YtelolcagncgfpaaGreatEngA
namespace Go.Proofs.YtelolcagncgfpaaGreat
open Go.RowKit
set_option linter.unusedSimpArgs false
set_option linter.unusedVariables false
inductive Ty where
 | int (k : IntKind) | bool | string
 | struct (fs : List (Nat × TypeId))
 | array (len : Nat) (e : TypeId)
 | slice (e : TypeId)
 | ptr (e : TypeId) | map (k e : TypeId) | iface | fn | other
structure Row where
 t : TypeId
 ty : Ty
 size : Nat
 bytes : Nat
 zero : Value
def Ty.agg : Ty → Bool | .struct _ => true | .array _ _ => true | _ => false
def DescOk (P : Program) (t : TypeId) : Ty → Prop
 | .int k => P.underlying t = some (.int k)
 | .bool => P.underlying t = some .bool
 | .string => P.underlying t = some .string
 | .struct fs => ∃ F, P.underlying t = some (.struct F) ∧ F.toList.map (fun f => (f.offset, f.type)) = fs
 | .array n e => P.underlying t = some (.array n e)
 | .slice e => P.underlying t = some (.slice e)
 | .ptr e => P.underlying t = some (.pointer e)
 | .map k e => P.underlying t = some (.map k e)
 | .iface => ∃ ms, P.underlying t = some (.interface ms)
 | .fn => ∃ a b c, P.underlying t = some (.func a b c)
 | .other => False
structure RowOk (P : Program) (r : Row) : Prop where
 desc : DescOk P r.t r.ty
 info : (P.info? r.t).map (fun i => (i.zero, i.size, i.bytes)) = some (some r.zero, r.size, r.bytes)
def letR (r : Row) (K : Nat → Nat → Prop) : Prop := match r with | ⟨_, _, s, b, _⟩ => K s b
theorem letR_eq (r : Row) (K : Nat → Nat → Prop) : letR r K = K r.size r.bytes := by cases r; rfl
abbrev Tab := List Row
def lkR : Tab → TypeId → Option Row
 | [], _ => none
 | r :: rs, t => bif Nat.beq r.t t then some r else lkR rs t
def TabOk (P : Program) (T : Tab) : Prop := ∀ r ∈ T, RowOk P r
theorem TabOk.nil {P : Program} : TabOk P [] := fun _ h => by cases h
theorem TabOk.cons {P : Program} {r : Row} {T : Tab} (h : RowOk P r) (h' : TabOk P T) : TabOk P (r :: T) := fun x hx => by
 cases hx with
 | head => exact h
 | tail _ hx => exact h' x hx
theorem TabOk.look {P : Program} {T : Tab} (h : TabOk P T) {t : TypeId} {r : Row} (e : lkR T t = some r) : RowOk P r ∧ r.t = t := by
 induction T with
 | nil => cases e
 | cons x T ih =>
  unfold lkR at e
  cases hb : Nat.beq x.t t with
  | true => rw [hb] at e; cases e; exact ⟨h _ (by simp), Nat.eq_of_beq_eq_true hb⟩
  | false => rw [hb] at e; exact ih (fun y hy => h y (by simp [hy])) e
theorem RowOk.info' {P : Program} {r : Row} (h : RowOk P r) : ∃ i, P.info? r.t = some i ∧ i.zero = some r.zero ∧ i.size = r.size ∧ i.bytes = r.bytes := by
 have e := h.info
 cases hi : P.info? r.t with
 | none => rw [hi] at e; cases e
 | some i => rw [hi] at e; simp at e; exact ⟨i, rfl, e⟩
theorem RowOk.isAgg {P : Program} {r : Row} (h : RowOk P r) (w : World) : (isAgg r.t).run P w = .ok r.ty.agg w := by
 have := h.desc
 unfold DescOk at this
 unfold Go.isAgg
 cases hr : r.ty <;> rw [hr] at this <;> simp only [] at this
 case struct fs => obtain ⟨F, hF, _⟩ := this; simp [run_underlying hF, Ty.agg]
 case iface => obtain ⟨F, hF⟩ := this; simp [run_underlying hF, Ty.agg]
 case fn => obtain ⟨a, b, c, hF⟩ := this; simp [run_underlying hF, Ty.agg]
 all_goals simp [run_underlying this, Ty.agg]
theorem RowOk.sizeOf {P : Program} {r : Row} (h : RowOk P r) (w : World) : (sizeOf r.t).run P w = .ok r.size w := by
 obtain ⟨i, hi, _, hs, _⟩ := h.info'
 simp [Go.sizeOf, typeInfo, hi, hs]
theorem RowOk.zeroValue {P : Program} {r : Row} (h : RowOk P r) (w : World) : (zeroValue r.t).run P w = .ok r.zero w := by
 obtain ⟨i, hi, hz, _⟩ := h.info'
 simp [Go.zeroValue, typeInfo, hi, hz]
def ev (t : TM) : Operand → Option Value
 | .tmp i => lkT t i
 | .const v => bif flatR v then some v else none
 | .func f => some (.func (.func f) #[] #[])
 | .global _ => none
theorem ev_ok {t : TM} {x : Operand} {v : Value} (h : ev t x = some v) {m : BM} {N : Nat} {a : Act} (ht : TRel m N t a) : VR m v (a.eval x) := by
 cases x with
 | tmp i =>
  obtain ⟨c, hc, hv⟩ := ht.get i v h
  simpa [Act.eval, Array.getD_eq_getD_getElem?, hc] using hv
 | const u =>
  simp only [ev] at h
  cases hf : flatR u with
  | false => rw [hf] at h; cases h
  | true => rw [hf] at h; cases h; exact (VR.flat hf).2 rfl
 | func f =>
  simp [ev] at h
  subst h
  exact (VR.flat (by rfl)).2 rfl
 | global g => cases h
def onS {α : Type} (x : Option α) (K : α → Prop) : Prop := match x with | some v => K v | none => False
theorem onS_ok {α : Type} {x : Option α} {K : α → Prop} (h : onS x K) : ∃ v, x = some v ∧ K v := by
 cases x with
 | none => exact h.elim
 | some v => exact ⟨v, rfl, h⟩
theorem eval_flat {t : TM} {x : Operand} {v : Value} (h : ev t x = some v) (hf : flatR v = true) {m : BM} {N : Nat} {a : Act} (ht : TRel m N t a) : a.eval x = v := (VR.flat hf).1 (ev_ok h ht)
theorem VR.int {m : BM} {k : IntKind} {n : Int} {c : Value} (h : VR m (.int k n) c) : c = .int k n := (VR.flat rfl).1 h
theorem VR.str {m : BM} {s : ByteArray} {c : Value} (h : VR m (.string s) c) : c = .string s := (VR.flat rfl).1 h
theorem VR.bool {m : BM} {b : Bool} {c : Value} (h : VR m (.bool b) c) : c = .bool b := (VR.flat rfl).1 h
theorem VR.ptr {m : BM} {a : Addr} {c : Value} (h : VR m (.pointer (some a)) c) : ∃ b, A0 m a b ∧ c = .pointer (some b) := (VR.of0 rfl).1 h
theorem VR.slc {m : BM} {b o : Nat} {n k : Nat} {c : Value} (h : VR m (.slice (some ⟨b, o, none⟩) n k) c) : ∃ d, A0 m ⟨b, o, none⟩ d ∧ c = .slice (some d) n k := by
 obtain ⟨d, hd, rfl⟩ : ∃ d, A0 m ⟨b, o, none⟩ d ∧ c = slcF n k d := (VR.of0 rfl).1 h
 obtain ⟨g, s, hm, hs, rfl⟩ := hd.old
 exact ⟨_, hd, rfl⟩
theorem VR.mslc {m : BM} {b o : Nat} {n k : Nat} {c : Value} : VR m (.slice (some ⟨b, o, some 0⟩) n k) c ↔ M0 m b o n k c := VR.of0 rfl
theorem VR.rslc {m : BM} {b o q : Nat} {n k : Nat} {c : Value} : VR m (.slice (some ⟨b, o, some (q + 1)⟩) n k) c ↔ c = .slice (slcA ⟨b, o, unrig (some (q + 1))⟩) n k := by
 constructor
 · intro h
   obtain ⟨d, hd, rfl⟩ : ∃ d, A0 m ⟨b, o, some (q + 1)⟩ d ∧ c = slcF n k d := (VR.of0 rfl).1 h
   rw [(A0.rig rfl).1 hd]
   rfl
 · rintro rfl
   exact (VR.of0 rfl).2 ⟨_, (A0.rig rfl).2 rfl, rfl⟩
theorem VR.slc_any {m : BM} {b o : Nat} {p : Option Nat} {n k : Nat} {c : Value} (h : VR m (.slice (some ⟨b, o, p⟩) n k) c) : ∃ a, c = .slice a n k := by
 cases p with
 | none => obtain ⟨d, _, rfl⟩ := h.slc; exact ⟨_, rfl⟩
 | some p =>
  cases p with
  | zero => obtain ⟨g, s, _, ⟨_, rfl, rfl, rfl⟩ | ⟨_, rfl⟩⟩ := VR.mslc.1 h <;> exact ⟨_, rfl⟩
  | succ q => exact ⟨_, VR.rslc.1 h⟩
theorem spot_or {p : Option Nat} (h : isRig p = false) : p = none ∨ p = some 0 := by
 match p, h with
 | none, _ => exact .inl rfl
 | some 0, _ => exact .inr rfl
def nr (p : Option Nat) (X : Prop) : Prop := match isRig p with | true => False | false => X
theorem nr_ok {p : Option Nat} {X : Prop} (h : nr p X) : isRig p = false ∧ X := by
 unfold nr at h
 split at h
 · exact h.elim
 · rename_i e; exact ⟨e, h⟩
theorem VR.slc_pos {m : BM} {b o : Nat} {p : Option Nat} {n k : Nat} {c : Value} (h : VR m (.slice (some ⟨b, o, p⟩) n k) c) (hr : isRig p = false) (hk : 0 < n ∨ 0 < k) : ∃ d, A0 m ⟨b, o, none⟩ d ∧ c = .slice (some d) n k := by
 rcases spot_or hr with rfl | rfl
 · exact h.slc
 · obtain ⟨g, s, hm, ⟨_, rfl, rfl, rfl⟩ | ⟨hs, rfl⟩⟩ := VR.mslc.1 h
   · omega
   · exact ⟨_, A0.in hm hs, rfl⟩
theorem VR.slc_or {m : BM} {b o : Nat} {p : Option Nat} {n k : Nat} {c : Value} (h : VR m (.slice (some ⟨b, o, p⟩) n k) c) (hr : isRig p = false) :
 (n = 0 ∧ k = 0 ∧ ∃ g, c = .slice (weird g) 0 0 ∧ m b g nilS ∧ p = some 0) ∨ ∃ g s, m b g s ∧ s ≠ nilS ∧ c = .slice (some ⟨g, o + sh s, none⟩) n k := by
 rcases spot_or hr with rfl | rfl
 · obtain ⟨d, hd, rfl⟩ := h.slc
   obtain ⟨g, s, hm, hs, rfl⟩ := hd.old
   exact .inr ⟨g, s, hm, hs, rfl⟩
 · obtain ⟨g, s, hm, ⟨rfl, rfl, rfl, rfl⟩ | ⟨hs, rfl⟩⟩ := VR.mslc.1 h
   · exact .inl ⟨rfl, rfl, g, rfl, hm, rfl⟩
   · exact .inr ⟨g, s, hm, hs, rfl⟩
theorem VR.slc_at {m : BM} {b o g s : Nat} (hm : m b g s) (hs : s ≠ nilS) (p : Option Nat) (hr : isRig p = false) (n k : Nat) : VR m (.slice (some ⟨b, o, p⟩) n k) (.slice (some ⟨g, o + sh s, none⟩) n k) := by
 rcases spot_or hr with rfl | rfl
 · exact (VR.of0 rfl).2 ⟨_, A0.in hm hs, rfl⟩
 · exact VR.mslc.2 ⟨g, s, hm, .inr ⟨hs, rfl⟩⟩
theorem VR.slc_nil {m : BM} {b o g : Nat} (hm : m b g nilS) : VR m (.slice (some ⟨b, o, some 0⟩) 0 0) (.slice (weird g) 0 0) := VR.mslc.2 ⟨g, nilS, hm, .inl ⟨rfl, rfl, rfl, rfl⟩⟩
theorem VR.agg {m : BM} {cs : Array Value} {c : Value} (h : VR m (.agg cs) c) : ∃ l, LR (V0 m) cs.toList l ∧ c = .agg l.toArray := (VR.of1 rfl).1 h
theorem VR.tup {m : BM} {cs : Array Value} {c : Value} (h : VR m (.tuple cs) c) : ∃ l, LR (V1 m) cs.toList l ∧ c = .tuple l.toArray := h
theorem VR.same {m : BM} {v : Value} (h : flatR v = true) : VR m v v := (VR.flat h).2 rfl
def POk (P : Program) (t : TM) (hp : HP) (o : Oper) (v : Value) : Prop :=
 ∀ F B w0 m n w N a, HRel F B w0 m hp n w → TRel m N t a → ∃ c, VR m v c ∧ (execOp a.eval o).run P w = .ok (.value c) w
def kN : IntKind → Nat | .i8 => 0 | .i16 => 1 | .i32 => 2 | .i64 => 3 | .u8 => 4 | .u16 => 5 | .u32 => 6 | .u64 => 7
def sameK (k k' : IntKind) (X : Prop) : Prop := match Nat.beq (kN k) (kN k') with | true => X | false => False
theorem sameK_ok {k k' : IntKind} {X : Prop} (h : sameK k k' X) : k = k' ∧ X := by
 unfold sameK at h
 split at h
 · rename_i e
   exact ⟨(by cases k <;> cases k' <;> first | rfl | cases e), h⟩
 · exact h.elim
def vcBinInt (op : BinOp) (k : IntKind) (a : Int) (k' : IntKind) (b : Int) (K : Value → Prop) : Prop :=
 match op with
 | .shl => 0 ≤ b ∧ ∃ r, r = k.wrap (a * 2 ^ (min b.toNat k.bits)) ∧ K (.int k r)
 | .shr => 0 ≤ b ∧ ∃ r, r = a.fdiv (2 ^ (min b.toNat k.bits)) ∧ K (.int k r)
 | .add => sameK k k' (∃ r, r = k.wrap (a + b) ∧ K (.int k r))
 | .sub => sameK k k' (∃ r, r = k.wrap (a - b) ∧ K (.int k r))
 | .mul => sameK k k' (∃ r, r = k.wrap (a * b) ∧ K (.int k r))
 | .quo => sameK k k' (b ≠ 0 ∧ ∃ r, r = k.wrap (a.tdiv b) ∧ K (.int k r))
 | .rem => sameK k k' (b ≠ 0 ∧ ∃ r, r = a.tmod b ∧ K (.int k r))
 | .and => sameK k k' (∃ r, r = bits .and k a b ∧ K (.int k r))
 | .or => sameK k k' (∃ r, r = bits .or k a b ∧ K (.int k r))
 | .xor => sameK k k' (∃ r, r = bits .xor k a b ∧ K (.int k r))
 | .andNot => sameK k k' (∃ r, r = bits .andNot k a b ∧ K (.int k r))
 | .eql => sameK k k' (K (.bool (decide (a = b))))
 | .neq => sameK k k' (K (.bool (decide (a ≠ b))))
 | .lss => sameK k k' (K (.bool (decide (a < b))))
 | .leq => sameK k k' (K (.bool (decide (a ≤ b))))
 | .gtr => sameK k k' (K (.bool (decide (a > b))))
 | .geq => sameK k k' (K (.bool (decide (a ≥ b))))
abbrev binRun (P : Program) (op : BinOp) (xT : TypeId) (x y : Operand) (cx cy : Value) (w : World) : Result Value := (do eqGuard op xT x y cx cy; binOp op xT cx cy : Sem Value).run P w
theorem vcBinInt_ok {P : Program} {op : BinOp} {k k' : IntKind} {a b : Int} {K : Value → Prop} (h : vcBinInt op k a k' b K) (xT : TypeId) :
 ∃ v, K v ∧ flatR v = true ∧ ∀ w x y, binRun P op xT x y (.int k a) (.int k' b) w = .ok v w := by
 have hsh : ∀ {b : Int}, 0 ≤ b → ¬ b < 0 := fun h h' => by omega
 cases op
 case shl => obtain ⟨h0, r, rfl, hk⟩ := h; exact ⟨_, hk, rfl, fun w x y => by simp [binRun, go_sem, Op.shift, hsh h0]⟩
 case shr => obtain ⟨h0, r, rfl, hk⟩ := h; exact ⟨_, hk, rfl, fun w x y => by simp [binRun, go_sem, Op.shift, hsh h0]⟩
 case quo => obtain ⟨rfl, h0, r, rfl, hk⟩ := sameK_ok h; exact ⟨_, hk, rfl, fun w x y => by simp [binRun, go_sem, h0]⟩
 case rem => obtain ⟨rfl, h0, r, rfl, hk⟩ := sameK_ok h; exact ⟨_, hk, rfl, fun w x y => by simp [binRun, go_sem, h0]⟩
 case eql => obtain ⟨rfl, hk⟩ := sameK_ok h; exact ⟨_, hk, rfl, fun w x y => by simp [binRun, go_sem]; rfl⟩
 case neq => obtain ⟨rfl, hk⟩ := sameK_ok h; exact ⟨_, hk, rfl, fun w x y => by simp [binRun, go_sem]; rfl⟩
 case lss => obtain ⟨rfl, hk⟩ := sameK_ok h; exact ⟨_, hk, rfl, fun w x y => by simp [binRun, go_sem]⟩
 case leq => obtain ⟨rfl, hk⟩ := sameK_ok h; exact ⟨_, hk, rfl, fun w x y => by simp [binRun, go_sem]⟩
 case gtr => obtain ⟨rfl, hk⟩ := sameK_ok h; exact ⟨_, hk, rfl, fun w x y => by simp [binRun, go_sem]⟩
 case geq => obtain ⟨rfl, hk⟩ := sameK_ok h; exact ⟨_, hk, rfl, fun w x y => by simp [binRun, go_sem]⟩
 all_goals (obtain ⟨rfl, r, rfl, hk⟩ := sameK_ok h; exact ⟨_, hk, rfl, fun w x y => by simp [binRun, go_sem]⟩)
def strLt (a b : ByteArray) : Bool := Op.bytesLess (bytesOf a) (bytesOf b)
def strEq (a b : ByteArray) : Bool := decide (bytesOf a = bytesOf b)
def vcBinStr (op : BinOp) (a b : ByteArray) (K : Value → Prop) : Prop :=
 match op with
 | .add => a.size + b.size ≤ 9223372036854775807 ∧ K (.string (a ++ b))
 | .eql => K (.bool (strEq a b))
 | .neq => K (.bool (!strEq a b))
 | .lss => K (.bool (strLt a b))
 | .leq => K (.bool (strLt a b || strEq a b))
 | .gtr => K (.bool (!(strLt a b || strEq a b)))
 | .geq => K (.bool (!strLt a b))
 | _ => False
theorem vcBinStr_ok {P : Program} {op : BinOp} {a b : ByteArray} {K : Value → Prop} (h : vcBinStr op a b K) (xT : TypeId) :
 ∃ v, K v ∧ flatR v = true ∧ ∀ w x y, binRun P op xT x y (.string a) (.string b) w = .ok v w := by
 have e : (a.toList == b.toList) = strEq a b := by rw [ByteArray.toList_eq, ByteArray.toList_eq]; unfold strEq bytesOf; rw [Bool.eq_iff_iff]; simp
 have l : Op.bytesLess a.toList b.toList = strLt a b := by rw [ByteArray.toList_eq, ByteArray.toList_eq]; rfl
 cases op <;> first | exact h.elim | skip
 case add => obtain ⟨h0, hk⟩ := h; exact ⟨_, hk, rfl, fun w x y => by
  have : ¬ (9223372036854775807 : Int) < ((a.size + b.size : Nat) : Int) := by omega
  simp [binRun, go_sem, binOp, Op.stringOp]; omega⟩
 all_goals (refine ⟨_, h, rfl, fun w x y => ?_⟩; simp only [binRun, Sem.run_bind, eqGuard_at_string, Sem.run_pure, Result.andThen_ok, binOp, Op.stringOp, e, l])
def vcBinBool (op : BinOp) (a b : Bool) (K : Value → Prop) : Prop :=
 match op with
 | .eql => K (.bool (a == b))
 | .neq => K (.bool (!(a == b)))
 | _ => False
theorem equalIn_bool {P : Program} (w : World) (d : Nat) (t : TypeId) (a b : Bool) (h : P.underlying t = some .bool) : (Op.equalIn (d + 1) t (.bool a) (.bool b)).run P w = .ok (a == b) w := by
 simp [Op.equalIn, run_underlying h]
theorem equal_bool {P : Program} (w : World) (t : TypeId) (a b : Bool) (h : P.underlying t = some .bool) : (Op.equal t (.bool a) (.bool b)).run P w = .ok (a == b) w := equalIn_bool w 9999 t a b h
theorem equalIn_slice {P : Program} (w : World) (d : Nat) (t e : TypeId) (a : Option Addr) (n k n' k' : Nat) (h : P.underlying t = some (.slice e)) : (Op.equalIn (d + 1) t (.slice a n k) (.slice none n' k')).run P w = .ok a.isNone w := by
 cases a <;> simp [Op.equalIn, run_underlying h]
theorem equal_slice {P : Program} (w : World) (t e : TypeId) (a : Option Addr) (n k n' k' : Nat) (h : P.underlying t = some (.slice e)) : (Op.equal t (.slice a n k) (.slice none n' k')).run P w = .ok a.isNone w := equalIn_slice w 9999 t e a n k n' k' h
theorem equalIn_ptr {P : Program} (w : World) (d : Nat) (t e : TypeId) (a : Option Addr) (h : P.underlying t = some (.pointer e)) : (Op.equalIn (d + 1) t (.pointer a) (.pointer none)).run P w = .ok a.isNone w := by
 cases a <;> simp [Op.equalIn, run_underlying h]
theorem equal_ptr {P : Program} (w : World) (t e : TypeId) (a : Option Addr) (h : P.underlying t = some (.pointer e)) : (Op.equal t (.pointer a) (.pointer none)).run P w = .ok a.isNone w := equalIn_ptr w 9999 t e a h
theorem vcBinBool_ok {P : Program} {op : BinOp} {a b : Bool} {K : Value → Prop} (h : vcBinBool op a b K) {xT : TypeId} (hT : P.underlying xT = some .bool) :
 ∃ v, K v ∧ flatR v = true ∧ ∀ w x y, binRun P op xT x y (.bool a) (.bool b) w = .ok v w := by
 cases op <;> first | exact h.elim | skip
 all_goals (refine ⟨_, h, rfl, fun w x y => ?_⟩; simp only [binRun, Sem.run_bind, eqGuard_at_bool, Sem.run_pure, Result.andThen_ok, binOp, equal_bool w xT a b hT])
def vcBinNil (op : BinOp) (b : Bool) (K : Value → Prop) : Prop :=
 match op with
 | .eql => K (.bool b)
 | .neq => K (.bool (!b))
 | _ => False
structure EqOb (P : Program) (T : TypeId) (vx vy : Value) (b : Bool) : Prop where
 fx : flatR vx = true
 fy : flatR vy = true
 eql : ∀ w x y, binRun P .eql T x y vx vy w = .ok (.bool b) w
 neq : ∀ w x y, binRun P .neq T x y vx vy w = .ok (.bool (!b)) w
def vcBinAny (P : Program) (op : BinOp) (xT : TypeId) (vx vy : Value) (K : Value → Prop) : Prop :=
 match op with
 | .eql => ∃ b, EqOb P xT vx vy b ∧ K (.bool b)
 | .neq => ∃ b, EqOb P xT vx vy b ∧ K (.bool (!b))
 | _ => False
structure IfaceT (P : Program) (t : TypeId) : Prop where
 und : P.underlying t = some (.interface (P.methodsAt t))
def vcIf (P : Program) (op : BinOp) (t : TypeId) (b : Bool) (K : Value → Prop) : Prop := IfaceT P t ∧ vcBinNil op b K
def vcBin (P : Program) (T : Tab) (op : BinOp) (xT : TypeId) (yo : Operand) (vx vy : Value) (K : Value → Prop) : Prop :=
 match vx, vy with
 | .int k a, .int k' b => vcBinInt op k a k' b K
 | .string a, .string b => vcBinStr op a b K
 | .bool a, .bool b => onS (lkR T xT) fun r => match r.ty with | .bool => vcBinBool op a b K | _ => False
 | .slice none _ _, .slice none _ _ => onS (lkR T xT) fun r => match r.ty with | .slice _ => vcBinNil op true K | _ => False
 | .slice (some ⟨_, _, none⟩) _ _, .slice none _ _ => onS (lkR T xT) fun r => match r.ty with | .slice _ => vcBinNil op false K | _ => False
 | .pointer a, .pointer none => onS (lkR T xT) fun r => match r.ty with | .ptr _ => vcBinNil op a.isNone K | _ => False
 | .agg xs, .agg ys => vcBinAny P op xT (.agg xs) (.agg ys) K
 | .nilIface, .nilIface => match yo with | .const _ => vcIf P op xT true K | _ => False
 | .iface _ (.pointer (some _)), .nilIface => vcIf P op xT false K
 | _, _ => False
theorem vcBin_ok {P : Program} {T : Tab} (hT : TabOk P T) {op : BinOp} {xT : TypeId} {yo : Operand} {vx vy : Value} {K : Value → Prop} (h : vcBin P T op xT yo vx vy K) :
 ∃ v, K v ∧ flatR v = true ∧ ∀ m w x cx cy, VR m vx cx → VR m vy cy → binRun P op xT x yo cx cy w = .ok v w := by
 unfold vcBin at h
 split at h
 · obtain ⟨v, hk, hf, hr⟩ := vcBinInt_ok (P := P) h xT
   exact ⟨v, hk, hf, fun m w x cx cy hx hy => by rw [hx.int, hy.int]; exact hr w x yo⟩
 · obtain ⟨v, hk, hf, hr⟩ := vcBinStr_ok (P := P) h xT
   exact ⟨v, hk, hf, fun m w x cx cy hx hy => by rw [hx.str, hy.str]; exact hr w x yo⟩
 · obtain ⟨r, hr, h2⟩ := onS_ok h
   clear h
   obtain ⟨ok, rfl⟩ := hT.look hr
   have hd := ok.desc
   generalize hty : r.ty = ty at h2 hd
   split at h2
   · obtain ⟨v, hk, hf, hr⟩ := vcBinBool_ok (P := P) h2 hd
     exact ⟨v, hk, hf, fun m w x cx cy hx hy => by rw [hx.bool, hy.bool]; exact hr w x yo⟩
   · exact h2.elim
 · rename_i n k n' k'
   obtain ⟨r, hr, h2⟩ := onS_ok h
   clear h
   obtain ⟨ok, rfl⟩ := hT.look hr
   have hd := ok.desc
   generalize hty : r.ty = ty at h2 hd
   split at h2
   · have hy' : ∀ {m : BM} {c : Value}, VR m (.slice none n' k') c → c = .slice none n' k' := fun h => (VR.flat rfl).1 h
     cases op <;> first | exact h2.elim | skip
     all_goals (refine ⟨_, h2, rfl, fun m w x cx cy hx hy => ?_⟩; rw [(VR.flat rfl).1 hx, hy' hy]; simp only [binRun, Sem.run_bind, eqGuard_at_slice, eqGuard_at_pointer, Sem.run_pure, Result.andThen_ok, binOp, equal_slice w r.t _ _ _ _ _ _ hd] <;> rfl)
   · exact h2.elim
 · rename_i b o n k n' k'
   obtain ⟨r, hr, h2⟩ := onS_ok h
   clear h
   obtain ⟨ok, rfl⟩ := hT.look hr
   have hd := ok.desc
   generalize hty : r.ty = ty at h2 hd
   split at h2
   · have hy' : ∀ {m : BM} {c : Value}, VR m (.slice none n' k') c → c = .slice none n' k' := fun h => (VR.flat rfl).1 h
     cases op <;> first | exact h2.elim | skip
     all_goals (refine ⟨_, h2, rfl, fun m w x cx cy hx hy => ?_⟩; obtain ⟨b, _, rfl⟩ := hx.slc; rw [hy' hy]; simp only [binRun, Sem.run_bind, eqGuard_at_slice, eqGuard_at_pointer, Sem.run_pure, Result.andThen_ok, binOp, equal_slice w r.t _ _ _ _ _ _ hd] <;> rfl)
   · exact h2.elim
 · rename_i a
   obtain ⟨r, hr, h2⟩ := onS_ok h
   clear h
   obtain ⟨ok, rfl⟩ := hT.look hr
   have hd := ok.desc
   generalize hty : r.ty = ty at h2 hd
   split at h2
   · have hy' : ∀ {m : BM} {c : Value}, VR m (.pointer none) c → c = .pointer none := fun h => (VR.flat rfl).1 h
     cases a with
     | none =>
      cases op <;> first | exact h2.elim | skip
      all_goals (refine ⟨_, h2, rfl, fun m w x cx cy hx hy => ?_⟩; rw [(VR.flat rfl).1 hx, hy' hy]; simp only [binRun, Sem.run_bind, eqGuard_at_slice, eqGuard_at_pointer, Sem.run_pure, Result.andThen_ok, binOp, equal_ptr w r.t _ _ hd] <;> rfl)
     | some a =>
      cases op <;> first | exact h2.elim | skip
      all_goals (refine ⟨_, h2, rfl, fun m w x cx cy hx hy => ?_⟩; obtain ⟨b, _, rfl⟩ := hx.ptr; rw [hy' hy]; simp only [binRun, Sem.run_bind, eqGuard_at_slice, eqGuard_at_pointer, Sem.run_pure, Result.andThen_ok, binOp, equal_ptr w r.t _ _ hd] <;> rfl)
   · exact h2.elim
 · cases op <;> first | exact h.elim | skip
   · obtain ⟨b, ob, hk⟩ := h
     exact ⟨_, hk, rfl, fun m w x cx cy hx hy => by rw [(VR.flat ob.fx).1 hx, (VR.flat ob.fy).1 hy]; exact ob.eql w x yo⟩
   · obtain ⟨b, ob, hk⟩ := h
     exact ⟨_, hk, rfl, fun m w x cx cy hx hy => by rw [(VR.flat ob.fx).1 hx, (VR.flat ob.fy).1 hy]; exact ob.neq w x yo⟩
 · split at h
   · obtain ⟨it, h2⟩ := h
     cases op <;> first | exact h2.elim | skip
     all_goals (refine ⟨_, h2, rfl, fun m w x cx cy hx hy => ?_⟩; rw [(VR.flat rfl).1 hx, (VR.flat rfl).1 hy]; simp only [binRun, Sem.run_bind, eqGuard_nil_constR, Sem.run_pure, Result.andThen_ok, run_eql_nil_nil w _ it.und, run_neq_nil_nil w _ it.und] <;> rfl)
   · exact h.elim
 · obtain ⟨it, h2⟩ := h
   cases op <;> first | exact h2.elim | skip
   all_goals (refine ⟨_, h2, rfl, fun m w x cx cy hx hy => ?_⟩; obtain ⟨b, _, rfl⟩ := (VR.of0 rfl).1 hx; rw [(VR.flat rfl).1 hy]; simp only [binRun, Sem.run_bind, eqGuard_at_iface, Sem.run_pure, Result.andThen_ok, run_eql_held_nil w _ _ _ it.und, run_neq_held_nil w _ _ _ it.und] <;> rfl)
 · exact h.elim
def vcUn (op : UnOp) (v : Value) (K : Value → Prop) : Prop :=
 match op, v with
 | .not, .bool b => K (.bool (!b))
 | .neg, .int k n => ∃ r, r = k.wrap (0 - n) ∧ K (.int k r)
 | .xor, .int k n => ∃ r, r = bits .xor k (if k.signed then -1 else k.max) n ∧ K (.int k r)
 | _, _ => False
theorem vcUn_ok {P : Program} {op : UnOp} {v : Value} {K : Value → Prop} (h : vcUn op v K) :
 ∃ u, K u ∧ flatR u = true ∧ ∀ m w c, VR m v c → (Op.unary op c).run P w = .ok u w := by
 unfold vcUn at h
 split at h
 · exact ⟨_, h, rfl, fun m w c hc => by rw [hc.bool]; rfl⟩
 · obtain ⟨r, rfl, hk⟩ := h
   exact ⟨_, hk, rfl, fun m w c hc => by rw [hc.int]; rfl⟩
 · obtain ⟨r, rfl, hk⟩ := h
   exact ⟨_, hk, rfl, fun m w c hc => by rw [hc.int]; rfl⟩
 · exact h.elim
end Go.Proofs.YtelolcagncgfpaaGreat
