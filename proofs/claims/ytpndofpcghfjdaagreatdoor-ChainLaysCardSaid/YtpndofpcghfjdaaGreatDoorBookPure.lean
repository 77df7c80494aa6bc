/- A book of pages, in plain words. No program in sight. -/
import Derived.Test.YtpndofpcghfjdaaGreatDoorSparePure
namespace Go.Proofs.YtpndofpcghfjdaaGreatDoor
abbrev Bk := List (Int × ByteArray)
def blankS : ByteArray := strOf (padL [])
theorem blankS_size : blankS.size = 232 := by unfold blankS; rw [strOf_size, padL_length]
def getB (B : Bk) (n : Int) : ByteArray := match B.find? (fun p => p.1 == n) with | some p => p.2 | none => blankS
def putB (B : Bk) (n : Int) (d : ByteArray) : Bk := match B.findIdx? (fun p => p.1 == n) with | some k => B.set k (n, d) | none => B ++ [(n, d)]
def NoneB (B : Bk) (n : Int) : Prop := ∀ p ∈ B, p.1 ≠ n
theorem NoneB.step {B : Bk} {n : Int} {k : Nat} {p : Int × ByteArray} (h : NoneB (B.take k) n) (hp : B[k]? = some p) (hn : p.1 ≠ n) : NoneB (B.take (k + 1)) n := by
  intro q hq
  rw [take_step hp] at hq
  rcases List.mem_append.1 hq with hq | hq
  · exact h q hq
  · obtain rfl := List.mem_singleton.1 hq; exact hn
/-- Where a page stands; -1: nowhere. -/
def PlaceB (B : Bk) (n x : Int) : Prop := (x = -1 ∧ NoneB B n) ∨ ∃ (k : Nat) (p : Int × ByteArray), x = k ∧ B[k]? = some p ∧ p.1 = n ∧ k < B.length ∧ NoneB (B.take k) n
theorem find_none {B : Bk} {n : Int} (h : NoneB B n) : B.find? (fun p => p.1 == n) = none := List.find?_eq_none.2 fun p hp e => h p hp (by simpa using e)
theorem getB_none {B : Bk} {n : Int} (h : NoneB B n) : getB B n = blankS := by unfold getB; rw [find_none h]
theorem getB_at {B : Bk} {n : Int} {k : Nat} {p : Int × ByteArray} (h : NoneB (B.take k) n) (hp : B[k]? = some p) (hn : p.1 = n) : getB B n = p.2 := by
  have e : B.find? (fun p => p.1 == n) = some p := by
    obtain ⟨hk, hpe⟩ := List.getElem?_eq_some_iff.1 hp
    have hB : B = B.take k ++ p :: B.drop (k + 1) := by rw [← hpe, List.getElem_cons_drop, List.take_append_drop]
    rw [hB, List.find?_append, find_none h, Option.none_or, List.find?_cons_of_pos (by simpa using hn)]
  unfold getB; rw [e]
theorem putB_none {B : Bk} {n : Int} {d : ByteArray} (h : NoneB B n) : putB B n d = B ++ [(n, d)] := by
  have : B.findIdx? (fun p => p.1 == n) = none := List.findIdx?_eq_none_iff.2 fun p hp => by have := h p hp; simpa using this
  unfold putB; rw [this]
theorem putB_at {B : Bk} {n : Int} {d : ByteArray} {k : Nat} {p : Int × ByteArray} (h : NoneB (B.take k) n) (hp : B[k]? = some p) (hn : p.1 = n) : putB B n d = B.set k (n, d) := by
  obtain ⟨hk, hpe⟩ := List.getElem?_eq_some_iff.1 hp
  have : B.findIdx? (fun p => p.1 == n) = some k := by
    rw [List.findIdx?_eq_some_iff_getElem]
    refine ⟨hk, by rw [hpe]; simpa using hn, fun j hj => ?_⟩
    have hjk : j < B.length := by omega
    have := h B[j] (by
      rw [List.mem_take_iff_getElem]
      exact ⟨j, by omega, rfl⟩)
    simpa using this
  unfold putB; rw [this]
theorem set_map_snd {B : Bk} {n : Int} {d : ByteArray} {k : Nat} {f : ByteArray → Value} : (B.map fun p => f p.2).set k (f d) = (B.set k (n, d)).map fun p => f p.2 := by rw [List.map_set]
theorem set_map_fst {B : Bk} {n : Int} {d : ByteArray} {k : Nat} {p : Int × ByteArray} {f : Int → Value} (hp : B[k]? = some p) (hn : p.1 = n) : (B.set k (n, d)).map (fun p => f p.1) = B.map fun p => f p.1 := by
  rw [List.map_set]
  obtain ⟨hk, hpe⟩ := List.getElem?_eq_some_iff.1 hp
  apply List.ext_getElem?
  intro i
  rw [List.getElem?_set]
  split
  · rename_i e; subst e
    rw [List.length_map, if_pos hk, List.getElem?_map, hp, Option.map_some, hn]
  · rfl
theorem blt_len {α : Type} {l : List α} {f : α → Value} {i : Nat} (h : i < l.length) : Nat.blt (0 + i * 1) (l.map f).length = true := by
  rw [List.length_map, Nat.zero_add, Nat.mul_one]; exact Nat.ble_eq_true_of_le h
theorem len_map1 {α : Type} (l : List α) (f : α → Value) : (l.map f).length = l.length * 1 := by rw [List.length_map, Nat.mul_one]
theorem app_one {α : Type} {B : List α} {x : α} {f : α → Value} {l : List Value} (h : l = [f x]) : B.map f ++ l = (B ++ [x]).map f := by rw [h, List.map_append]; rfl
theorem set_one {B : Bk} {n : Int} {d : ByteArray} {k : Nat} {f : ByteArray → Value} : putL (B.map fun p => f p.2) (0 + k * 1) [f d] = (B.set k (n, d)).map fun p => f p.2 := by
  rw [← set_map_snd, Nat.zero_add, Nat.mul_one]; rfl
theorem len_one {α : Type} {B : List α} {x : α} : B.length + 1 = (B ++ [x]).length := by simp
theorem take_pred_len {α : Type} {l : List α} : l.length - 1 = (l.take (l.length - 1)).length := by rw [List.length_take]; omega
theorem map_take1 {α : Type} {l : List α} {f : α → Value} (q : Nat) : (l.map f).take q = (l.take q).map f := by rw [List.map_take]
theorem blank_eq : strOf (padL (bytesOf (⟨#[]⟩ : ByteArray))) = blankS := rfl
theorem decTL_len (s : ByteArray) : (decTL s).length ≤ 50 := by
  unfold decTL
  split
  · rw [ents_length]; omega
  · exact Nat.zero_le _
end Go.Proofs.YtpndofpcghfjdaaGreatDoor
