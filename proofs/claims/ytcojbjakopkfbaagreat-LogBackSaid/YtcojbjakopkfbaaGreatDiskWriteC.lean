/- The disk: a sector is written, told of the disk as a whole. -/
import Derived.Test.YtcojbjakopkfbaaGreatDiskWrite
import Derived.Test.YtcojbjakopkfbaaGreatDiskTotal
namespace Go.Proofs.YtcojbjakopkfbaaGreat
open Go.RowKit
set_option linter.unusedSimpArgs false
set_option linter.unusedVariables false
attribute [local irreducible] bytesOf strOf strEq strLt sfrom begS
theorem total_perm {a b : Fs} (h : a.Perm b) : total a = total b := by
  unfold total
  exact (h.map _).sum_nat
theorem total_le {fs : Fs} (h : fs.Ok) : total fs ≤ 131072 := by
  have key : ∀ l : Fs, (∀ p ∈ l, p.2.Ok) → total l ≤ l.length * 16384 := by
    intro l
    induction l with
    | nil => intro _; exact Nat.zero_le _
    | cons p l ih =>
      intro hl
      have h1 := ih fun q hq => hl q (List.mem_cons_of_mem _ hq)
      have h2 := (hl p List.mem_cons_self).len
      unfold total at h1 ⊢
      rw [List.map_cons, List.sum_cons, List.length_cons]
      omega
  have h1 := key fs h.files
  have h2 := h.few
  omega
theorem write_c (S : Nat → Prop) (D : DM) (hD : D.Ok) (s : ByteArray) (i : Int) (data : ByteArray) (hi : -9223372036854775808 ≤ i ∧ i ≤ 9223372036854775807) :
    CallOb Tryz.prog 71 [ptr 0, .string s, iv i, .string data] [(0, diskI S D)] 1 (AbsP (fun a : Int => iv a) (fun a D' => (a, D') = writeD D s i data)) := by
  refine of_raw Tryz.call71 fun E C hp => ?_
  have hlen : E.length = D.fs.length := by have := hp.length_eq; rwa [List.length_map] at this
  have htot : total (filesOf E) = total D.fs := total_perm hp
  have hle := total_le hD.fs
  have hfew := hD.fs.few
  have hs := hD.fs.sorted
  refine (write_l D.k s i data E C hD.k hi (ok_files hp hD.fs) (by omega) (names_nodup hp hs) (by omega)).conv ?_
  rintro v h1 n1 ⟨z, hz, rfl, rfl, rfl⟩ F B w0 m w c H hv
  have done : ∀ {n : Nat} {D' : DM} {a : Int}, n ≤ 20 → VR m (iv a) c → (∃ S, HRel F B w0 m [(0, diskI S D')] n w) → (a, D') = writeD D s i data → ∃ m' v' h2 n2, m.le m' ∧ VR m' v' c ∧ HRel F B w0 m' h2 n2 w ∧ AbsP (fun a : Int => iv a) (fun a D' => (a, D') = writeD D s i data) v' h2 n2 := by
    rintro n D' a hn hv ⟨S, H'⟩ hr
    exact ⟨m, iv a, _, 20, BM.le_refl m, hv, H'.up (BM.le_refl m) H'.fn (fun i g s x => Nat.lt_of_lt_of_le (H'.fresh i g s x) hn), a, _, S, hr, rfl, rfl, rfl⟩
  -- a file that is there
  have foc : ∀ {k' : Dk} {q : Nat} {L : LF} {X : Fl}, FoundR D.k s (decide (0 ≤ i) && decide (data.size = 256)) E (0, k', some L) → E[q]? = some (s, L, X) →
      foundD D s (decide (0 ≤ i) && decide (data.size = 256)) = (0, ⟨k', D.fs⟩) ∧ findF D.fs s = some X ∧ ∀ X', ((filesOf E).set q (s, X')).Perm (putF D.fs s X') := by
    intro k' q L X hR hq
    obtain ⟨hf, hx⟩ := found_some hp hs hR hq
    have hl : (filesOf E)[q]? = some (s, X) := by rw [List.getElem?_map, hq]; rfl
    have hlt : q < (filesOf E).length := by
      rcases Nat.lt_or_ge q (filesOf E).length with y | y
      · exact y
      · rw [List.getElem?_eq_none y] at hl; cases hl
    exact ⟨hf, hx, fun X' => put_perm hp hs hl (perm_erase hl) (erase_set_perm _ hlt)⟩
  cases z with
  | raw e k' =>
    obtain ⟨f, hR, h0, hr⟩ := hz
    have hf := found_none hp hs hR
    refine done (n := 3) (a := e) (by decide) hv (close_raw H hp) ?_
    unfold writeD
    rw [hf]
    dsimp only
    rcases hr with ⟨h1, rfl⟩ | ⟨rfl, h1, h2, rfl⟩
    · rw [if_pos ⟨h0, h1⟩]
    · have hno := found_n14 hp hR rfl (begS_n14 _ _ _)
      have hge : 0 ≤ i := by
        rcases Int.lt_or_le i 0 with h | h
        · have hR2 := hR
          rw [← right_no h] at hR2
          exact absurd (found_neg hR2) (by decide)
        · exact h
      have h0 : i = 0 := by omega
      subst h0
      have e0 : (findF D.fs s).getD fl0 = fl0 := by rw [hno]; rfl
      rw [if_neg (by omega), e0, if_neg (show ¬ ((fl0.now.length : Int) < 0) by decide), if_pos]
      rcases h2 with h2 | h2
      · exact .inl ⟨rfl, by omega⟩
      · exact .inr ⟨rfl, by rw [← htot]; exact h2⟩
  | foc e k' q L X =>
    obtain ⟨hR, hq, hok, hr⟩ := hz
    obtain ⟨hf, hx, hput⟩ := foc hR hq
    refine done (n := 7) (a := e) (by decide) hv (close_foc H hq hok (hput X)) ?_
    rw [put_same hs hx]
    unfold writeD
    rw [hf, hx]
    dsimp only [Option.getD_some]
    rw [if_neg (by simp)]
    rcases hr with ⟨h1, rfl⟩ | ⟨h1, h2, rfl⟩
    · rw [if_pos h1]
    · rw [if_neg (by omega), if_pos (.inr ⟨h1, by rw [← htot]; exact h2⟩)]
  | old e k' q nl ka nv sl kb sv wl kc wv sure =>
    obtain ⟨rfl, L, X, hR, hq, hok, rfl, hr⟩ := hz
    obtain ⟨hf, hx, hput⟩ := foc hR hq
    have hX := ok_files hp hD.fs _ (List.mem_of_getElem? hq)
    have e1 : L.pn.length = X.now.length := hok.c1.len
    have e2 : L.ps.length = X.safe.length := hok.c2.len
    have e3 : X.safe.length = X.now.length := hX.safe
    have e4 : X.wait.length = X.now.length := hX.wait
    have m1 : ∀ g, All2 (fun p x => (p, x) ∈ (g, some data) :: C) L.pn X.now := fun g => hok.c1.mono fun _ _ h => List.mem_cons_of_mem _ h
    rcases hr with ⟨h0, h1, rfl, rfl, rfl, rfl, rfl, rfl⟩ | ⟨h1, h2, rfl, rfl, rfl, rfl, rfl, rfl⟩
    · refine done (n := 8) (a := 0) (by decide) hv (close_old H hq (X' := writeF X i.toNat data) (fun g => L.pn.set i.toNat g) L.ps (fun g hg l hl => nv_set H.fn hg hl) rfl ?_ ?_ ?_ ?_ ?_ ?_ ?_ (hput _)) ?_
      all_goals (try (unfold writeF; rw [if_neg (by omega)]; dsimp only))
      · rw [List.map_set]
      · unfold writeF; split <;> rfl
      · intro g; rw [List.length_set]; omega
      · omega
      · rw [List.length_set]; omega
      · exact fun g => (m1 g).set _ (List.Mem.head _)
      · exact hok.c2
      · unfold writeD
        rw [hf, hx]
        dsimp only [Option.getD_some]
        rw [if_neg (by simp), if_neg (by omega), if_neg]
        · rintro (⟨h, _⟩ | ⟨h, _⟩) <;> omega
    · refine done (n := 8) (a := 0) (by decide) hv (close_old H hq (X' := writeF X i.toNat data) (fun g => L.pn ++ [g]) (L.ps ++ [none]) (fun g hg l hl => nv_app H.fn hg (by omega) hl) ?_ ?_ ?_ ?_ ?_ ?_ ?_ ?_ (hput _)) ?_
      all_goals (try (unfold writeF; rw [if_pos (by omega)]; dsimp only))
      · rw [List.map_append]; rfl
      · have e : i.toNat = (X.wait.map Value.bool).length := by rw [List.length_map]; omega
        rw [e, set_len, List.map_append]; rfl
      · unfold writeF; split <;> rfl
      · intro g; rw [List.length_append, List.length_singleton]; omega
      · rw [List.length_append, List.length_singleton]; omega
      · rw [List.length_append, List.length_singleton]; omega
      · exact fun g => (m1 g).app ⟨List.Mem.head _, trivial⟩
      · exact hok.c2.app ⟨trivial, trivial⟩
      · unfold writeD
        rw [hf, hx]
        dsimp only [Option.getD_some]
        rw [if_neg (by simp), if_neg (by omega), if_neg]
        · rintro (⟨h, _⟩ | ⟨_, h⟩)
          · omega
          · rw [← htot] at h; omega
  | new e k' ka kb kc =>
    obtain ⟨rfl, f, hR, rfl, rfl, h1, h2⟩ := hz
    have hf := found_none hp hs hR
    have hno := found_n14 hp hR rfl (begS_n14 _ _ _)
    refine done (n := 8) (a := 0) (by decide) hv (close_new H (put_snoc hp hno)) ?_
    have e0 : (findF D.fs s).getD fl0 = fl0 := by rw [hno]; rfl
    unfold writeD
    rw [hf, e0]
    dsimp only
    rw [if_neg (by omega), if_neg (show ¬ ((fl0.now.length : Int) < 0) by decide), if_neg]
    · rfl
    · rintro (⟨_, h⟩ | ⟨_, h⟩)
      · omega
      · rw [← htot] at h; omega
end Go.Proofs.YtcojbjakopkfbaaGreat
