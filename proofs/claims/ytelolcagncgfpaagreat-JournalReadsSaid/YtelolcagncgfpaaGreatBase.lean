/- Small words for all layers: texts as lists of bytes, numbers' bounds, blocks that are known whole; no program in sight. -/
import Derived.WalkKit
import Derived.ProofKit
import Derived.OpenShut
import Derived.ShutString
import Derived.ChangeOld
import Derived.Below
import Derived.OneCell
import Derived.Outline
import Derived.RegionTactic
import Derived.WalkLawsBesides
import Derived.WalkSpells
import Derived.Lib.Hide
import Derived.Laws.BitsAllLaws
import Derived.Laws.IdiomStrings
import Derived.Lib.ConvBytes
import Derived.Lib.SmallJoins
namespace Go.Proofs.YtelolcagncgfpaaGreat
open Go.RowKit
def strOf (l : List UInt8) : ByteArray := ⟨l.toArray⟩
def bytesOf (s : ByteArray) : List UInt8 := s.data.toList
theorem bytesOf_append (s t : ByteArray) : bytesOf (s ++ t) = bytesOf s ++ bytesOf t := by simp [bytesOf]
theorem bytesOf_length (s : ByteArray) : (bytesOf s).length = s.size := by simp [bytesOf]
theorem bytesOf_strOf (l : List UInt8) : bytesOf (strOf l) = l := rfl
theorem strOf_size (l : List UInt8) : (strOf l).size = l.length := by simp [strOf, ByteArray.size]
theorem strOf_bytesOf (s : ByteArray) : strOf (bytesOf s) = s := by cases s; simp [strOf, bytesOf]
theorem strOf_inj {a b : List UInt8} : strOf a = strOf b ↔ a = b := ⟨fun h => by rw [← bytesOf_strOf a, h, bytesOf_strOf], fun h => by rw [h]⟩
theorem bytesOf_inj {s t : ByteArray} : bytesOf s = bytesOf t ↔ s = t := ⟨fun h => by rw [← strOf_bytesOf s, h, strOf_bytesOf], fun h => by rw [h]⟩
theorem bytesOf_extract (s : ByteArray) (a b : Nat) : bytesOf (s.extract a b) = ((bytesOf s).take b).drop a := by
 simp [bytesOf, List.drop_take]
theorem strOf_append (a b : List UInt8) : strOf (a ++ b) = strOf a ++ strOf b := by
 rw [← bytesOf_inj, bytesOf_append, bytesOf_strOf, bytesOf_strOf, bytesOf_strOf]
theorem bytes_get (s : ByteArray) (k : Nat) (h : k < s.size) (h' : k < (bytesOf s).length) : s[k]'h = (bytesOf s)[k] := by
 exact (Array.getElem_toList (xs := s.data) (by simpa [bytesOf] using h')).symm
def U64 (x : Int) : Prop := 0 ≤ x ∧ x < 18446744073709551616
theorem U64.wrap {x : Int} (h : U64 x) : IntKind.u64.wrap x = x := by
 rw [IntKind.wrap_u64]; exact Int.emod_eq_of_lt h.1 h.2
theorem u64_of_wf {x : Int} (h : (Lit.int .u64 x).wf = true) : U64 x := by
 have := bounds_u64 h
 unfold U64
 omega
theorem U64.nat {x : Int} (h : U64 x) : x.toNat < 18446744073709551616 := by have := h.1; have := h.2; omega
theorem u64_nat {n : Nat} (h : n < 18446744073709551616) : U64 (n : Int) := ⟨by omega, by omega⟩
theorem byte_of {n : Int} (h : (Lit.int .u8 n).wf = true) : ∃ b : UInt8, n = (b.toNat : Int) := by
 have := bounds_u8 h
 exact ⟨UInt8.ofNat n.toNat, by rw [UInt8.toNat_ofNat']; omega⟩
theorem ret_int {k : IntKind} {a b : Int} (h : a = b) : Ending.returned (.int k a) = .returned (.int k b) := by rw [h]
theorem ret_bool {b : Bool} (h : b = true) : Ending.returned (.bool b) = .returned (.bool true) := by rw [h]
theorem ret_str {a b : ByteArray} (h : a = b) : Ending.returned (.string a) = .returned (.string b) := by rw [h]
def Blk (w : World) (g : Nat) (t : TypeId) (cs : Array Value) : Prop := w.heap[g]? = some (.cells cs t (0, 0))
theorem Blk.cell {w : World} {g : Nat} {t : TypeId} {cs : Array Value} (h : Blk w g t cs) (i : Nat) : w.cell? ⟨g, i, none⟩ = cs[i]? := by unfold Blk at h; simp [World.cell?, h]
theorem Blk.frozen {w : World} {g : Nat} {t : TypeId} {cs : Array Value} (h : Blk w g t cs) (i : Nat) : w.frozen? ⟨g, i, none⟩ = false := by unfold Blk at h; simp [World.frozen?, h]
theorem Blk.lt {w : World} {g : Nat} {t : TypeId} {cs : Array Value} (h : Blk w g t cs) : g < w.heap.size := lt_of_block h
theorem Blk.below {w w' : World} {B g : Nat} {t : TypeId} {cs : Array Value} (h : Blk w g t cs) (hb : Below B w w') (hg : g < B) : Blk w' g t cs := (hb.block g hg).trans h
theorem Blk.new (w : World) (t : TypeId) (cs : Array Value) : Blk (w.alloc (.cells cs t)) w.heap.size t cs := heap_alloc_new w _
theorem Blk.alloc {w : World} {g : Nat} {t : TypeId} {cs : Array Value} (h : Blk w g t cs) (o : Obj) : Blk (w.alloc o) g t cs := (Below.heap_alloc w o g h.lt).trans h
theorem Blk.set {w : World} {g : Nat} {t : TypeId} {cs : Array Value} (h : Blk w g t cs) (i : Nat) (u : Value) : Blk (w.setCell ⟨g, i, none⟩ u) g t (cs.setIfInBounds i u) := by
 unfold Blk at h ⊢
 simp [World.setCell, Array.getElem?_modify, h]
theorem Blk.far {w : World} {g : Nat} {t : TypeId} {cs : Array Value} (h : Blk w g t cs) {p : Addr} (hp : g ≠ p.block) (u : Value) : Blk (w.setCell p u) g t cs := (Below.heap_setCell w p u g hp).trans h
theorem below_chain {B : Nat} {w w1 w2 : World} (h : Below B w w1) (h' : Below w1.heap.size w1 w2) (hB : B ≤ w.heap.size) : Below B w w2 := h.trans (h'.mono (Nat.le_trans hB h.size))
theorem carry {P : Program} {f : FuncId} {args : Array Value} {w w0 : World} {B : Nat} {R : Ending → Prop} (hle : B ≤ w0.heap.size) (hB : Below B w0 w)
 (h : Calls P f args w fun e w' => R e ∧ Below w.heap.size w w') : Calls P f args w fun e w' => R e ∧ Below B w0 w' :=
 h.mono fun _ _ ⟨he, hb⟩ => ⟨he, below_chain hB hb hle⟩
theorem carry_same {P : Program} {f : FuncId} {args : Array Value} {w w0 : World} {B : Nat} {R : Ending → Prop} (hB : Below B w0 w)
 (h : Calls P f args w fun e w' => R e ∧ w = w') : Calls P f args w fun e w' => R e ∧ Below B w0 w' :=
 h.mono fun _ _ ⟨he, hb⟩ => ⟨he, by rw [← hb]; exact hB⟩
theorem szT {p : Prop} (h : p := by (simp only [size_sfrom, ByteArray.size_extract, ByteArray.size_append, strOf_size, fixedL_length, lit_size, List.size_toArray, List.length_cons, List.length_nil, List.length_append, List.length_replicate]; omega)) : p := h
theorem rfT {p : Prop} (h : p := by rfl) : p := h
theorem omT {p : Prop} (h : p := by omega) : p := h
theorem bC {α : Type} {a : α} {l m : List α} : a :: l ++ m = a :: (l ++ m) := rfl
theorem bL {α : Type} {l : List α} : [] ++ l = l := rfl
theorem bN1 {p : Prop} [Decidable p] : (decide p = true) = p := decide_eq_true_eq
theorem bN2 {p : Prop} [Decidable p] : decide p = false ↔ ¬p := decide_eq_false_iff_not
theorem bN3 {a b : Int} : ¬a < b ↔ b ≤ a := Int.not_lt
theorem bN4 {a b : Int} : ¬a ≤ b ↔ b < a := Int.not_le
theorem bN5 {α : Sort _} {a b : α} : (a ≠ b) = ¬(a = b) := ne_eq a b
theorem bN6 {p : Prop} [Decidable p] : ¬¬p ↔ p := Decidable.not_not
theorem bN7 {b : Bool} : ((!b) = true) = (b = false) := Bool.not_eq_true' b
theorem bN8 {b : Bool} : ((!b) = false) = (b = true) := Bool.not_eq_false' b
theorem bN9 {α : Type _} [LT α] {a b : α} : a > b ↔ b < a := gt_iff_lt
theorem bN0 {α : Type _} [LE α] {a b : α} : a ≥ b ↔ b ≤ a := ge_iff_le
end Go.Proofs.YtelolcagncgfpaaGreat
