/- What was synced stays: no program in sight. -/
import Derived.Test.YtdgmjjidkaafaaaDiskSee
namespace Go.Proofs.Ytdgmjjidkaafaaa
open Go.RowKit
set_option linter.unusedSimpArgs false
set_option linter.unusedVariables false
abbrev nB : ByteArray := ⟨#[]⟩
/-- A synced file's sectors behind writes: what they were, or what was written last. -/
def WrL : List Cv → List Cv → List Bool → List ByteArray → Prop
  | [], [], [], [] => True
  | c :: cs, n :: ns, w :: ws, z :: zs => (z = nB → n = c ∧ w = false) ∧ (z ≠ nB → n = some z) ∧ WrL cs ns ws zs
  | _, _, _, _ => False
theorem WrL.start : ∀ (cs : List Cv), WrL cs cs (List.replicate cs.length false) (List.replicate cs.length nB)
  | [] => trivial
  | _ :: cs => ⟨fun _ => ⟨rfl, rfl⟩, fun h => absurd rfl h, WrL.start cs⟩
theorem WrL.len : ∀ {cs ns : List Cv} {ws : List Bool} {zs : List ByteArray}, WrL cs ns ws zs → ns.length = cs.length ∧ zs.length = cs.length
  | [], [], [], [], _ => ⟨rfl, rfl⟩
  | _ :: _, _ :: _, _ :: _, _ :: _, h => by have := WrL.len h.2.2; simp only [List.length_cons]; omega
theorem WrL.set : ∀ {cs ns : List Cv} {ws : List Bool} {zs : List ByteArray} (i : Nat) {s : ByteArray}, s ≠ nB → WrL cs ns ws zs → WrL cs (ns.set i (some s)) (ws.set i true) (zs.set i s)
  | [], [], [], [], _, _, _, _ => trivial
  | _ :: _, _ :: _, _ :: _, _ :: _, 0, _, hs, h => ⟨fun e => absurd e hs, fun _ => rfl, h.2.2⟩
  | _ :: _, _ :: _, _ :: _, _ :: _, i + 1, _, hs, h => ⟨h.1, h.2.1, WrL.set i hs h.2.2⟩
theorem WrL.same : ∀ {cs ns : List Cv} {ws : List Bool}, WrL cs ns ws (List.replicate cs.length nB) → ns = cs
  | [], [], [], _ => rfl
  | _ :: _, _ :: _, _ :: _, h => by rw [(h.1 rfl).1, WrL.same h.2.2]
/-- A sector behind the loss of power. -/
def EndC (c : Cv) (z : ByteArray) (v : Cv) : Prop := v = c ∨ (z ≠ nB ∧ (v = none ∨ v = some z))
def EndL : List Cv → List ByteArray → List Cv → Prop
  | [], [], [] => True
  | c :: cs, z :: zs, v :: vs => EndC c z v ∧ EndL cs zs vs
  | _, _, _ => False
theorem EndL.len : ∀ {cs : List Cv} {zs : List ByteArray} {vs : List Cv}, EndL cs zs vs → vs.length = cs.length
  | [], [], [], _ => rfl
  | _ :: _, _ :: _, _ :: _, h => by have := EndL.len h.2; simp only [List.length_cons]; omega
theorem EndL.get : ∀ {cs : List Cv} {zs : List ByteArray} {vs : List Cv} {i : Nat} {c : Cv} {z : ByteArray}, EndL cs zs vs → cs[i]? = some c → zs[i]? = some z → ∃ v, vs[i]? = some v ∧ EndC c z v
  | [], [], [], _, _, _, _, e, _ => by simp at e
  | _ :: _, _ :: _, v :: _, 0, _, _, h, e, e' => by simp at e e'; subst e e'; exact ⟨v, rfl, h.1⟩
  | _ :: cs, _ :: zs, _ :: vs, i + 1, _, _, h, e, e' => EndL.get (cs := cs) (zs := zs) (vs := vs) (i := i) h.2 (by simpa using e) (by simpa using e')
theorem fates_wr (l : List Int) : ∀ {cs ns : List Cv} {ws : List Bool} {zs : List ByteArray} (u : Nat), WrL cs ns ws zs → ∃ vs : List Cv, (fates l ns (cs.map some) ws u).1 = vs.map some ∧ EndL cs zs vs
  | [], [], [], [], _, _ => ⟨[], rfl, trivial⟩
  | c :: cs, n :: ns, true :: ws, z :: zs, u, h => by
    obtain ⟨vs, h1, h2⟩ := fates_wr l (u + 1) h.2.2
    have hz : z ≠ nB := fun e => by cases (h.1 e).2
    have hn := h.2.1 hz
    have e : (fates l (n :: ns) ((c :: cs).map some) (true :: ws) u).1 = fateC (fateAt l u) n (some c) :: (fates l ns (cs.map some) ws (u + 1)).1 := rfl
    rw [e, h1]
    unfold fateC
    split
    · exact ⟨n :: vs, rfl, .inr ⟨hz, .inr hn⟩, h2⟩
    · split
      · exact ⟨none :: vs, rfl, .inr ⟨hz, .inl rfl⟩, h2⟩
      · exact ⟨c :: vs, rfl, .inl rfl, h2⟩
  | c :: cs, n :: ns, false :: ws, z :: zs, u, h => by
    obtain ⟨vs, h1, h2⟩ := fates_wr l u h.2.2
    have e : (fates l (n :: ns) ((c :: cs).map some) (false :: ws) u).1 = some c :: (fates l ns (cs.map some) ws u).1 := rfl
    rw [e, h1]
    exact ⟨c :: vs, rfl, .inl rfl, h2⟩
theorem find_on (l : List Int) {s : ByteArray} {x : Fl} (hx : x.sure = true) : ∀ {fs : Fs} (u : Nat), Sorted fs → findF fs s = some x → ∃ u', findF (onF l fs u) s = some { (fatedF l x u').1 with sure := true }
  | [], _, _, h => by rw [find_nil] at h; cases h
  | (t, y) :: r, u, hs, h => by
    have hr := (List.pairwise_cons.1 hs).2
    have e : onF l ((t, y) :: r) u = if (fatedF l y u).1.now = [] ∧ y.sure = false then onF l r (fatedF l y u).2 else (t, { (fatedF l y u).1 with sure := true }) :: onF l r (fatedF l y u).2 := rfl
    rw [find_cons] at h
    rw [e]
    split at h
    · rename_i ht
      cases h
      rw [if_neg (fun hh => by rw [hx] at hh; cases hh.2), find_cons, if_pos ht]
      exact ⟨u, rfl⟩
    · rename_i ht
      split
      · exact find_on l hx _ hr h
      · rw [find_cons, if_neg ht]
        exact find_on l hx _ hr h
/-- A synced file behind writes. -/
structure SafR (nm : ByteArray) (cs : List Cv) (zs : List ByteArray) (D : DM) : Prop where
  good : goodName nm = true
  ex : ∃ x, findF D.fs nm = some x ∧ x.sure = true ∧ x.safe = cs.map some ∧ WrL cs x.now x.wait zs
  down : D.k.down = false
  at0 : D.k.at' = 0
theorem SafR.len {nm : ByteArray} {cs : List Cv} {zs : List ByteArray} {D : DM} (h : SafR nm cs zs D) : zs.length = cs.length := by
  obtain ⟨x, _, _, _, h⟩ := h.ex
  exact h.len.2
theorem SafR.size {nm : ByteArray} {cs : List Cv} {zs : List ByteArray} {D : DM} (h : SafR nm cs zs D) : sizeD D nm = (cs.length : Nat) := by
  obtain ⟨x, h1, _, _, h2⟩ := h.ex
  unfold sizeD
  rw [h1]
  dsimp only
  rw [h2.len.1]
theorem SafR.bytes {nm : ByteArray} {cs : List Cv} {D : DM} (h : SafR nm cs (List.replicate cs.length nB) D) : bytesD D nm = strOf (cs.flatMap cellB) := by
  obtain ⟨x, h1, _, _, h2⟩ := h.ex
  unfold bytesD
  rw [h1, Option.getD_some, h2.same]
theorem SafR.read {nm : ByteArray} {cs : List Cv} {zs : List ByteArray} {D : DM} (h : SafR nm cs zs D) (i : Int) : SafR nm cs zs (readD D nm i).2 := by
  obtain ⟨x, h1, h2⟩ := h.ex
  obtain ⟨k, fs⟩ := D
  rw [read_up h.good h.down h.at0 h1]
  exact ⟨h.good, ⟨x, h1, h2⟩, h.down, h.at0⟩
theorem SafR.val {nm : ByteArray} {cs : List Cv} {D : DM} (h : SafR nm cs (List.replicate cs.length nB) D) {i : Nat} {c : Cv} (hc : cs[i]? = some c) : (readD D nm (i : Nat)).1 = readC (some c) := by
  obtain ⟨x, h1, h2, h3, h4⟩ := h.ex
  obtain ⟨k, fs⟩ := D
  rw [read_up h.good h.down h.at0 h1]
  unfold readF
  rw [if_neg (by omega), Int.toNat_natCast, h4.same, hc]
theorem SafR.write {nm : ByteArray} {cs : List Cv} {zs : List ByteArray} {D : DM} (h : SafR nm cs zs D) (hs : Sorted D.fs) {k : Nat} (hk : k < cs.length) {s : ByteArray} (hz : s.size = 256) :
    (writeD D nm (k : Nat) s).1 = 0 ∧ SafR nm cs (zs.set k s) (writeD D nm (k : Nat) s).2 := by
  obtain ⟨x, h1, h2, h3, h4⟩ := h.ex
  obtain ⟨q, fs⟩ := D
  have hl := h4.len.1
  rw [write_up h.good h.down h.at0 h1 (by omega) hz (by omega) (by omega), Int.toNat_natCast]
  have hn : s ≠ nB := fun e => by rw [e] at hz; cases hz
  refine ⟨rfl, h.good, ⟨writeF x k s, ?_, ?_⟩, h.down, h.at0⟩
  · dsimp only
    rw [find_put hs, if_pos rfl]
  · unfold writeF
    rw [if_neg (by omega)]
    exact ⟨h2, h3, h4.set k hn⟩
/-- The file behind the loss of power. -/
structure EndR (nm : ByteArray) (cs : List Cv) (zs : List ByteArray) (D : DM) : Prop where
  good : goodName nm = true
  ex : ∃ x, findF D.fs nm = some x ∧ EndL cs zs x.now
  down : D.k.down = false
  at0 : D.k.at' = 0
theorem SafR.on {nm : ByteArray} {cs : List Cv} {zs : List ByteArray} {D : DM} (h : SafR nm cs zs D) (hs : Sorted D.fs) (F : List Int) : EndR nm cs zs (onD (offD D) F) := by
  obtain ⟨x, h1, h2, h3, h4⟩ := h.ex
  obtain ⟨u, h5⟩ := find_on F h2 0 hs h1
  have e : offD D = ⟨{ D.k with life := D.k.life + 1, down := true, at' := 0 }, D.fs⟩ := by
    unfold offD
    rw [if_neg (by rw [h.down]; decide)]
  have e2 : onD (offD D) F = ⟨{ { D.k with life := D.k.life + 1, down := true, at' := 0 } with down := false }, onF F D.fs 0⟩ := by
    rw [e]
    unfold onD
    rw [if_pos rfl]
  rw [e2]
  obtain ⟨vs, h6, h7⟩ := fates_wr F u h4
  refine ⟨h.good, ⟨_, h5, ?_⟩, rfl, rfl⟩
  unfold fatedF
  dsimp only
  rw [h3, h6, trim_some, fill_some]
  exact h7
theorem EndR.size {nm : ByteArray} {cs : List Cv} {zs : List ByteArray} {D : DM} (h : EndR nm cs zs D) : sizeD D nm = (cs.length : Nat) := by
  obtain ⟨x, h1, h2⟩ := h.ex
  unfold sizeD
  rw [h1]
  dsimp only
  rw [h2.len]
theorem EndR.read {nm : ByteArray} {cs : List Cv} {zs : List ByteArray} {D : DM} (h : EndR nm cs zs D) (i : Int) : EndR nm cs zs (readD D nm i).2 := by
  obtain ⟨x, h1, h2⟩ := h.ex
  obtain ⟨k, fs⟩ := D
  rw [read_up h.good h.down h.at0 h1]
  exact ⟨h.good, ⟨x, h1, h2⟩, h.down, h.at0⟩
theorem EndR.val {nm : ByteArray} {cs : List Cv} {zs : List ByteArray} {D : DM} (h : EndR nm cs zs D) {i : Nat} {c : Cv} {z : ByteArray} (hc : cs[i]? = some c) (hz : zs[i]? = some z) : ∃ v, EndC c z v ∧ (readD D nm (i : Nat)).1 = readC (some v) := by
  obtain ⟨x, h1, h2⟩ := h.ex
  obtain ⟨v, h3, h4⟩ := h2.get hc hz
  obtain ⟨k, fs⟩ := D
  refine ⟨v, h4, ?_⟩
  rw [read_up h.good h.down h.at0 h1]
  unfold readF
  rw [if_neg (by omega), Int.toNat_natCast, h3]
/-! The start. -/
structure StartR (nm : ByteArray) (cs : List Cv) (D : DM) : Prop where
  saf : SafR nm cs (List.replicate cs.length nB) D
  len : cs.length ≤ 16384
  cells : ∀ c ∈ cs, OkC c
theorem sync_start {D : DM} (h : FillD D) {p : ByteArray × Fl} (hp : p ∈ D.fs) : (syncD D p.1).1 = 0 ∧ StartR p.1 p.2.now (syncD D p.1).2 := by
  have hf : findF D.fs p.1 = some p.2 := mem_find h.ok.fs.sorted hp
  have hg := h.ok.fs.names p hp
  have ho := h.ok.fs.files p hp
  have hs := h.ok.fs.sorted
  obtain ⟨k, fs⟩ := D
  rw [sync_up hg h.down h.at0 hf]
  refine ⟨rfl, ⟨hg, ⟨syncF p.2, ?_, rfl, rfl, WrL.start _⟩, h.down, h.at0⟩, ho.len, ho.now⟩
  dsimp only
  rw [find_put hs, if_pos rfl]
/-! The parts of a file's bytes. -/
theorem cell_len {c : Cv} (h : OkC c) : (cellB c).length = 256 := by
  cases c with
  | none => exact List.length_replicate
  | some d => show (bytesOf d).length = 256; rw [bytesOf_length]; exact h
theorem cells_len : ∀ {cs : List Cv}, (∀ c ∈ cs, OkC c) → (cs.flatMap cellB).length = cs.length * 256
  | [], _ => rfl
  | c :: cs, h => by
    rw [List.flatMap_cons, List.length_append, cell_len (h c List.mem_cons_self), cells_len fun d hd => h d (List.mem_cons_of_mem _ hd), List.length_cons]
    omega
theorem cells_at : ∀ {cs : List Cv} {i : Nat} {c : Cv}, (∀ c ∈ cs, OkC c) → cs[i]? = some c → ((cs.flatMap cellB).drop (i * 256)).take 256 = cellB c
  | [], _, _, _, e => by simp at e
  | c :: cs, 0, d, h, e => by
    simp only [List.getElem?_cons_zero, Option.some.injEq] at e
    subst e
    rw [List.flatMap_cons, Nat.zero_mul, List.drop_zero, List.take_append_of_le_length (by rw [cell_len (h c List.mem_cons_self)]; omega), List.take_of_length_le (by rw [cell_len (h c List.mem_cons_self)]; omega)]
  | c :: cs, i + 1, d, h, e => by
    rw [List.flatMap_cons, show (i + 1) * 256 = (cellB c).length + i * 256 by rw [cell_len (h c List.mem_cons_self)]; omega, List.drop_append]
    rw [List.drop_of_length_le (by omega), List.nil_append, Nat.add_sub_cancel_left]
    exact cells_at (fun d hd => h d (List.mem_cons_of_mem _ hd)) (by simpa using e)
theorem was_at {cs : List Cv} (h : ∀ c ∈ cs, OkC c) {i : Nat} {d : ByteArray} (e : cs[i]? = some (some d)) {a b : Nat} (ha : a = i * 256) (hb : b = i * 256 + 256) : (strOf (cs.flatMap cellB)).extract a b = d := by
  rw [← bytesOf_inj, bytesOf_extract, bytesOf_strOf, ha, hb, List.drop_take, Nat.add_sub_cancel_left, cells_at h e]
  rfl
/-- Which sectors are torn. -/
def tornL (cs : List Cv) : List Bool := cs.map fun c => c.isNone
/-- What the last loop meets at a sector. -/
def MeetR (t : Bool) (e : Int) (s old z : ByteArray) : Prop := (t = true ∧ e = 13) ∨ (t = false ∧ e = 0 ∧ s = old) ∨ (z ≠ nB ∧ (e = 13 ∨ s = z))
theorem EndR.meet {nm : ByteArray} {cs : List Cv} {zs : List ByteArray} {D : DM} (h : EndR nm cs zs D) (hk : ∀ c ∈ cs, OkC c) {i : Nat} {c : Cv} {z : ByteArray} (hc : cs[i]? = some c) (hz : zs[i]? = some z) {a b : Nat} (ha : a = i * 256) (hb : b = i * 256 + 256) :
    MeetR c.isNone (readD D nm (i : Nat)).1.2 (readD D nm (i : Nat)).1.1 ((strOf (cs.flatMap cellB)).extract a b) z := by
  obtain ⟨v, hv, e⟩ := h.val hc hz
  rw [e]
  rcases hv with rfl | ⟨hn, rfl | rfl⟩
  · cases v with
    | none => exact .inl ⟨rfl, rfl⟩
    | some d => exact .inr (.inl ⟨rfl, rfl, (was_at hk hc ha hb).symm⟩)
  · exact .inr (.inr ⟨hn, .inl rfl⟩)
  · exact .inr (.inr ⟨hn, .inr rfl⟩)
end Go.Proofs.Ytdgmjjidkaafaaa
