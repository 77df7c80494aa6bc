/- Slices of bytes over this program: made, appended to, turned into texts and back. -/
import Derived.Test.YtelolcagncgfpaaGreatRows
import Derived.Test.YtelolcagncgfpaaGreatBase
namespace Go.Proofs.YtelolcagncgfpaaGreat
open Go.RowKit
theorem infoB : (Tryz.prog.info? 5).map (fun i => (i.zero, i.size, i.bytes)) = some (some (.int .u8 0), 1, 1) := by kernel_rfl
theorem made_replicate (k : Nat) : madeCells #[.int .u8 0] k = Array.replicate k (.int .u8 0) := by
 unfold madeCells
 apply Array.ext
 · simp
 · intro i h1 h2
   simp [Nat.mod_one]
theorem make_bytes (k : Nat) (hk : k ≤ 1048576) (w : World) :
 (Instr.makeSlice 53 (.int .i64 (k : Int)) (.int .i64 (k : Int))).run Tryz.prog w = .ok (.slice (some ⟨w.heap.size, 0, none⟩) k k) (w.alloc (.cells (Array.replicate k (.int .u8 0)) 5)) := by
 obtain ⟨i0, hi, hz0, hz1, hz2⟩ := info_parts infoB
 have h := run_make (P := Tryz.prog) w 53 5 i0 (.int .u8 0) Tryz.underlying53 hi hz0 .i64 .i64 (k : Int) (k : Int) (by omega) (Int.le_refl _) (by rw [hz2]; omega) (by omega)
 simp only [Int.toNat_natCast, hz1, Value.cells, Nat.mul_one, made_replicate] at h
 exact h
def byteV (b : UInt8) : Value := .int .u8 (b.toNat : Nat)
theorem conv_back {w : World} {g c : Nat} {l : List UInt8} (hc : ∀ j (hj : j < l.length), w.cell? ⟨g, j, none⟩ = some (.int .u8 (l[j].toNat : Int))) (n : Nat) (hn : l.length = n) :
 (convert 53 9 (.slice (some ⟨g, 0, none⟩) n c)).run Tryz.prog w = .ok (.string (strOf l)) w := by
 subst hn
 exact run_convert_bytes_back w 53 9 5 ⟨g, 0, none⟩ c l Tryz.underlying53 Tryz.underlying5 Tryz.underlying9 (fun j hj => by
  have := hc j hj
  unfold Addr.add
  split <;> simp_all)
def OwnB (w : World) (B : Nat) (v : Value) (l : List UInt8) : Prop := w.ownsRow B 5 1 v l.length (l.map byteV)
theorem OwnB.nil (w : World) (B : Nat) : OwnB w B (.slice none 0 0) [] := ⟨rfl, .inl ⟨rfl, rfl⟩⟩
theorem OwnB.form {w : World} {B : Nat} {v : Value} {l : List UInt8} (h : OwnB w B v l) (hl : 0 < l.length) : ∃ g cap, v = .slice (some ⟨g, 0, none⟩) l.length cap := Joins.ownsRow_form h hl
theorem OwnB.below {w w' : World} {B C : Nat} {v : Value} {l : List UInt8} (h : OwnB w B v l) (hb : Below C w w') (hC : w.heap.size ≤ C) : OwnB w' B v l := by
 obtain ⟨h1, h2⟩ := h
 refine ⟨h1, ?_⟩
 rcases h2 with h2 | ⟨g, cap, cur, hv, hg, hh, r⟩
 · exact Or.inl h2
 · exact Or.inr ⟨g, cap, cur, hv, hg, (hb.block g (Nat.lt_of_lt_of_le (lt_of_block hh) hC)).trans hh, r⟩
theorem OwnB.conv {w : World} {B g n cap : Nat} {l : List UInt8} (h : OwnB w B (.slice (some ⟨g, 0, none⟩) n cap) l) (hn : l.length = n) :
 (convert 53 9 (.slice (some ⟨g, 0, none⟩) n cap)).run Tryz.prog w = .ok (.string (strOf l)) w := by
 refine conv_back (fun j hj => ?_) n hn
 subst hn
 have := h.cellAt j (by simpa using hj)
 rw [this]
 simp [byteV, List.getElem?_eq_getElem hj]
theorem wpList_push {ops : Array Oper} {rest : List Oper} {o : Oper} {a : Act} {Q : Exit → Act → World → Prop} (hgd : o.guard = none) (s x : Operand)
 (ho : o.op = .call { callee := .builtin .append, args := #[s, x], argTypes := #[53, 53] })
 (w : World) (B n : Nat) (v : Value) (l : List UInt8) (y : Int) (b : UInt8) (hown : OwnB w B v l) (hs : a.eval s = v) (hx : a.eval x = .slice (some ⟨w.heap.size, 0, none⟩) 1 1)
 (hy : y = (b.toNat : Int)) (hn : l.length = n) (hlen : n ≤ 1048576) (hle : B ≤ w.heap.size)
 (h : ∀ g cap w', OwnB w' B (.slice (some ⟨g, 0, none⟩) (n + 1) cap) (l ++ [b]) → Below B w w' → w.heap.size ≤ w'.heap.size → wpList Tryz.prog ops Q rest (a.put o.dst (.slice (some ⟨g, 0, none⟩) (n + 1) cap)) w') :
 wpList Tryz.prog ops Q (o :: rest) a (w.alloc (.cells #[.int .u8 y] 5)) := by
 subst hy
 subst hn
 obtain ⟨i0, hi, hz0, hz1, hz2⟩ := info_parts infoB
 refine wpList_append_own _ hgd s x 53 ho B 5 i0 (.int .u8 0) 1 1 Tryz.underlying53 hi hz0 hz1 hz2 rfl (by decide) v l.length (l.map byteV) hs (hown.alloc _) ⟨w.heap.size, 0, none⟩ 1 1 [byteV b] hx rfl ?_ ?_ (by unfold maxLen; omega) (by omega) (by simp; omega) ?_
 · intro j u hj
   match j, hj with
   | 0, hj => simp at hj; subst hj; simp [Addr.add, byteV]
   | j + 1, hj => simp at hj
 · intro u hu; simp at hu; subst hu; rfl
 · intro v' w' hown' hgrow _
   have ho' : OwnB w' B v' (l ++ [b]) := by
    unfold OwnB
    simpa using hown'
   obtain ⟨g, cap, hv⟩ := ho'.form (by simp)
   simp only [List.length_append, List.length_cons, List.length_nil, Nat.zero_add] at hv
   subst hv
   have hb : Below B w w' := ((Below.refl B w).alloc hle _).grown hgrow (by simp; omega) (fun k hk => (hown.lt k hk).1)
   exact h g cap w' ho' hb hb.size
theorem to_bytes (w : World) (s : ByteArray) : ∃ cap w', (convert 9 53 (.string s)).run Tryz.prog w = .ok (.slice (some ⟨w.heap.size, 0, none⟩) s.size cap) w' ∧
 (∀ j (hj : j < (bytesOf s).length), w'.cell? ⟨w.heap.size, j, none⟩ = some (.int .u8 ((bytesOf s)[j].toNat : Int))) ∧ Below w.heap.size w w' := by
 refine ⟨_, _, Lib.run_convert_string_bytes w 9 53 5 s Tryz.underlying9 Tryz.underlying53 Tryz.underlying5, ?_, Joins.below_bytesWorld _ _ _ _ (Nat.le_refl _)⟩
 intro j hj
 have hj' : j < s.size := by rwa [bytesOf_length] at hj
 rw [Lib.bytesWorld_cell _ _ _ _ hj', List.getD_eq_getElem?_getD, List.getElem?_eq_getElem (by simpa using hj')]
 rfl
end Go.Proofs.YtelolcagncgfpaaGreat
