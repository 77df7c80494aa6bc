/- The disk where nothing is amiss: its calls, in plain terms. -/
import Derived.Test.YtncnfmpclgkogaaDiskFs
namespace Go.Proofs.Ytncnfmpclgkogaa
open Go.RowKit
set_option linter.unusedSimpArgs false
set_option linter.unusedVariables false
/-- A text of one byte. -/
def pgS (n : Nat) (b : Int) : ByteArray := strOf (List.replicate n (UInt8.ofNat b.toNat))
theorem pgS_size (n : Nat) (b : Int) : (pgS n b).size = n := by unfold pgS; rw [strOf_size, List.length_replicate]
abbrev fN : ByteArray := ⟨#[102]⟩
abbrev gN : ByteArray := ⟨#[103]⟩
theorem f_good : goodName fN = true := by decide
theorem beg_up {k : Dk} {s : ByteArray} (hs : goodName s = true) (h1 : k.down = false) (h2 : k.at' = 0) : begS k s true = (0, { k with ops := k.ops + 1 }) := by
  unfold begS
  rw [if_neg (by rw [hs]; simp), if_neg (by rw [h1]; decide), if_pos h2]
theorem beg_down {k : Dk} {s : ByteArray} (hs : goodName s = true) (h1 : k.down = true) : begS k s true = (10, k) := by
  unfold begS
  rw [if_neg (by rw [hs]; simp), if_pos h1]
theorem beg_bad {k : Dk} {s : ByteArray} {r : Bool} (hs : goodName s = false ∨ r = false) : begS k s r = (1, k) := by
  unfold begS
  rw [if_pos hs]
theorem found_up {k : Dk} {fs : Fs} {s : ByteArray} {X : Fl} (hs : goodName s = true) (h1 : k.down = false) (h2 : k.at' = 0) (hf : findF fs s = some X) : foundD ⟨k, fs⟩ s true = (0, ⟨{ k with ops := k.ops + 1 }, fs⟩) := by
  unfold foundD
  rw [beg_up hs h1 h2, hf]
  rfl
theorem found_no {k : Dk} {fs : Fs} {s : ByteArray} (hs : goodName s = true) (h1 : k.down = false) (h2 : k.at' = 0) (hf : findF fs s = none) : foundD ⟨k, fs⟩ s true = (14, ⟨{ k with ops := k.ops + 1 }, fs⟩) := by
  unfold foundD
  rw [beg_up hs h1 h2, hf]
  rfl
theorem right_up {i : Int} {d : ByteArray} (hi : 0 ≤ i) (hd : d.size = 256) : (decide (0 ≤ i) && decide (d.size = 256)) = true := by rw [decide_eq_true hi, decide_eq_true hd]; rfl
theorem write_up {k : Dk} {fs : Fs} {s d : ByteArray} {i : Int} {X : Fl} (hs : goodName s = true) (h1 : k.down = false) (h2 : k.at' = 0) (hf : findF fs s = some X) (hi : 0 ≤ i) (hd : d.size = 256) (hl : i ≤ X.now.length) (hr : i = X.now.length → (total fs : Int) < k.room) :
    writeD ⟨k, fs⟩ s i d = (0, ⟨{ k with ops := k.ops + 1 }, putF fs s (writeF X i.toNat d)⟩) := by
  unfold writeD
  rw [right_up hi hd, found_up hs h1 h2 hf, hf]
  dsimp only [Option.getD_some]
  rw [if_neg (by simp), if_neg (by omega), if_neg]
  rintro (⟨h, _⟩ | ⟨h, h'⟩)
  · cases h
  · have := hr h; omega
theorem write_new {k : Dk} {fs : Fs} {s d : ByteArray} (hs : goodName s = true) (h1 : k.down = false) (h2 : k.at' = 0) (hf : findF fs s = none) (hd : d.size = 256) (hl : fs.length < 8) (hr : (total fs : Int) < k.room) :
    writeD ⟨k, fs⟩ s 0 d = (0, ⟨{ k with ops := k.ops + 1 }, putF fs s ⟨[some d], [none], [true], false⟩⟩) := by
  unfold writeD
  rw [right_up (Int.le_refl 0) hd, found_no hs h1 h2 hf, hf]
  dsimp only [Option.getD_none]
  rw [if_neg (by simp), if_neg (show ¬ ((fl0.now.length : Int) < 0) by decide), if_neg]
  · rfl
  · rintro (⟨_, h⟩ | ⟨_, h⟩) <;> omega
theorem sync_up {k : Dk} {fs : Fs} {s : ByteArray} {X : Fl} (hs : goodName s = true) (h1 : k.down = false) (h2 : k.at' = 0) (hf : findF fs s = some X) : syncD ⟨k, fs⟩ s = (0, ⟨{ k with ops := k.ops + 1 }, putF fs s (syncF X)⟩) := by
  unfold syncD
  rw [found_up hs h1 h2 hf, hf]
  rfl
theorem read_up {k : Dk} {fs : Fs} {s : ByteArray} {X : Fl} {i : Int} (hs : goodName s = true) (h1 : k.down = false) (h2 : k.at' = 0) (hf : findF fs s = some X) : readD ⟨k, fs⟩ s i = (readF X i, ⟨{ k with ops := k.ops + 1 }, fs⟩) := by
  unfold readD
  rw [found_up hs h1 h2 hf, hf]
  rfl
theorem find_one {s : ByteArray} {X : Fl} : findF [(s, X)] s = some X := by rw [find_cons, if_pos rfl]
theorem put_one {s : ByteArray} {X Y : Fl} : putF [(s, X)] s Y = [(s, Y)] := put_cons_eq
theorem up_ok {D : DM} {n : Int} (h : D.OkN n) (hn : n ≤ 1000000) : D.Ok := h.ok (Int.lt_of_le_of_lt hn (by decide))
end Go.Proofs.Ytncnfmpclgkogaa
