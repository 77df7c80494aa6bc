/- Nodes, in plain Lean. -/
import Derived.Test.YtfjpinifmengcaaCall
import Derived.Test.YtfjpinifmengcaaEngN
import Derived.Test.YtfjpinifmengcaaEngU
namespace Go.Proofs.Ytfjpinifmengcaa
open Go.RowKit
set_option linter.unusedSimpArgs false
set_option linter.unusedVariables false
/-- A cell: its size, its bytes, its page. -/
abbrev Cel : Type := Int × ByteArray × Int
structure Nd where
  leaf : Bool
  keys : List ByteArray
  cells : List Cel
  kids : List Int
abbrev kv (k : ByteArray) : Value := .string k
abbrev iv (n : Int) : Value := .int .i64 n
abbrev ptr (i : Nat) : Value := .pointer (some ⟨i, 0, none⟩)
abbrev celv (y : Cel) : List Value := [.int .i64 y.1, .string y.2.1, .int .i64 y.2.2]
def IsPg (n : Int) : Prop := 1 ≤ n ∧ n ≤ 4095
def OkCell (c : Cel) : Prop := (0 ≤ c.1 ∧ c.1 ≤ 40 ∧ (c.2.1.size : Int) = c.1 ∧ c.2.2 = 0) ∨ (40 < c.1 ∧ c.1 ≤ 5000 ∧ c.2.1.size = 0 ∧ IsPg c.2.2)
/-- Keys rise, up to a place. -/
def RiseTo (l : List ByteArray) (i : Nat) : Prop := ∀ j k, j < i → l[j]? = some k → k.size ≤ 64 ∧ (∀ p, 1 ≤ j → l[j - 1]? = some p → strLt p k = true)
def Rise (l : List ByteArray) : Prop := RiseTo l l.length
theorem RiseTo.zero (l : List ByteArray) : RiseTo l 0 := fun j k h => absurd h (Nat.not_lt_zero _)
theorem RiseTo.succ {l : List ByteArray} {i : Nat} {k : ByteArray} (H : RiseTo l i) (hk : l[i]? = some k) (h1 : k.size ≤ 64) (h2 : ∀ p, 1 ≤ i → l[i - 1]? = some p → strLt p k = true) : RiseTo l (i + 1) := by
  intro j x hj hx
  rcases Nat.lt_succ_iff_lt_or_eq.1 hj with h | rfl
  · exact H j x h hx
  · rw [hk] at hx; cases hx; exact ⟨h1, h2⟩
theorem RiseTo.all {l : List ByteArray} {i : Nat} (H : RiseTo l i) (h : l.length ≤ i) : Rise l := fun j k hj hk => H j k (by omega) hk
theorem Rise.at {l : List ByteArray} (H : Rise l) {i : Nat} {k : ByteArray} (hk : l[i]? = some k) : k.size ≤ 64 ∧ (∀ p, 1 ≤ i → l[i - 1]? = some p → strLt p k = true) :=
  H i k (List.getElem?_eq_some_iff.1 hk).1 hk
theorem app_one {α : Type} {B : List α} {x : α} {f : α → Value} {l : List Value} (h : l = [f x]) : B.map f ++ l = (B ++ [x]).map f := by rw [h, List.map_append]; rfl
theorem sub_flat {T : Type} {f : T → List Value} {l : List T} {n i o : Nat} {y : T} (hn : ∀ y, (f y).length = n) (hy : l[i]? = some y) (ho : o = i * n) : subL (l.flatMap f) o n = some (f y) := by
  obtain ⟨hi, he⟩ := List.getElem?_eq_some_iff.1 hy
  have hlen := flat_length hn l
  have hin : i * n + n ≤ l.length * n := by
    have : (i + 1) * n ≤ l.length * n := Nat.mul_le_mul_right n hi
    rw [Nat.add_mul, Nat.one_mul] at this; exact this
  refine subL_in (List.ext_getElem? fun j => ?_) (hn y) (fun _ => by rw [hlen, ho]; omega)
  rw [List.getElem?_take, List.getElem?_drop, ho]
  by_cases hj : j < n
  · rw [if_pos hj, flat_getElem hn l i j y hy hj]
  · rw [if_neg hj, List.getElem?_eq_none (by rw [hn y]; omega)]
theorem flat_bindF {α : Type} {f : α → List Value} (h : ∀ a, (f a).all flat1 = true) (l : List α) : ∀ v ∈ l.flatMap f, flat1 v = true := by
  intro v hv
  obtain ⟨a, _, ha⟩ := List.mem_flatMap.1 hv
  exact List.all_eq_true.1 (h a) v ha
theorem cell_flat {T : Type} {f : T → List Value} {l : List T} {n i o j : Nat} {y : T} {K : Value → Prop} {v : Value} (hn : ∀ y, (f y).length = n) (hy : l[i]? = some y) (hj : j < n) (hv : (f y)[j]? = some v) (ho : o = i * n + j) (hk : K v) : onS (l.flatMap f)[o]? K := by
  rw [ho, flat_getElem hn l i j y hy hj, hv]; exact hk
def SmallN (n : Nd) : Prop := n.keys.length ≤ 300 ∧ n.cells.length ≤ 300 ∧ n.kids.length ≤ 300
abbrev ndVs (n : Nd) (i j k : Nat) (c1 c2 c3 : Nat) : List Value := [.bool n.leaf, mslice i n.keys.length c1, mslice j n.cells.length c2, mslice k n.kids.length c3]
abbrev ndH (n : Nd) (i j k : Nat) : HP := [(i, .lview (n.keys.map kv)), (j, .lview (n.cells.flatMap celv)), (k, .lview (n.kids.map iv))]
end Go.Proofs.Ytfjpinifmengcaa
