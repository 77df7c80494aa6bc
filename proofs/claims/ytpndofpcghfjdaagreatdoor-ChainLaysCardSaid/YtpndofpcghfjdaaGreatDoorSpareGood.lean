/- Taking and giving where the store does not fail and the trunks are whole. -/
import Derived.Test.YtpndofpcghfjdaaGreatDoorSpareGive
import Derived.Test.YtpndofpcghfjdaaGreatDoorSpareBack
namespace Go.Proofs.YtpndofpcghfjdaaGreatDoor
theorem trunk_good {left : Int} {B : Bk} {n next : Int} {l : List Int} {x : Trk} (h : TrunkD left B n x) (hl : left ≠ 0) (hg : getB B n = trS next l) (hf : fitT next l = true) : x = ⟨next, l, 0, left - 1⟩ := by
  obtain ⟨h1, h2, h3⟩ := dec_back hf
  rcases h with ⟨h0, _⟩ | ⟨_, ⟨_, rfl⟩ | ⟨h4, _⟩⟩
  · exact absurd h0 hl
  · rw [hg, h2, h3]
  · rw [hg] at h4; exact absurd h1 h4
theorem lay_good {left : Int} {B : Bk} {n next : Int} {l : List Int} {y : Int × Int × Bk} (h : LayD left B n next l y) (hl : left ≠ 0) (hf : fitT next l = true) : y = (0, left - 1, putB B n (trS next l)) := by
  rcases h with ⟨h1, _⟩ | ⟨_, ⟨h0, _⟩ | ⟨_, rfl⟩⟩
  · exact absurd (trS_yes hf).2 h1
  · exact absurd h0 hl
  · rfl
theorem take_new {h : Hd} {left : Int} {B : Bk} {z : Took} (H : TakeD h left B z) (hx : h.x = 0) (hp : h.p < 4096) : z = ⟨h.p, { h with p := h.p + 1 }, 0, left, B⟩ := by
  rcases H with ⟨_, h2, _⟩ | ⟨_, _, rfl⟩ | ⟨h1, _⟩
  · omega
  · rfl
  · exact absurd hx h1
theorem take_last {h : Hd} {left : Int} {B : Bk} {z : Took} {next l : Int} {ls : List Int} (H : TakeD h left B z) (hx : h.x ≠ 0) (h0 : left ≠ 0) (h1 : left ≠ 1) (hg : getB B h.t = trS next (ls ++ [l])) (hf : fitT next (ls ++ [l]) = true) (hf' : fitT next ls = true) (hn : next < h.p) (hl : l < h.p) :
    z = ⟨l, { h with x := h.x - 1 }, 0, left - 2, putB B h.t (trS next ls)⟩ := by
  rcases H with ⟨e, _⟩ | ⟨e, _⟩ | ⟨_, tr, hT, hz⟩
  · exact absurd e hx
  · exact absurd e hx
  · obtain rfl := trunk_good hT h0 hg hf
    have last : ∀ {k : Nat} {x : Int}, (ls ++ [l]).length = k + 1 → (ls ++ [l])[k]? = some x → k = ls.length ∧ x = l := by
      intro k x e1 e2
      have hk : k = ls.length := by simp at e1; omega
      subst hk
      simp at e2
      exact ⟨rfl, e2.symm⟩
    rcases hz with ⟨e, _⟩ | ⟨_, e | ⟨k, x, e1, e2, e3⟩, _⟩ | ⟨_, _, k, x, y, e1, e2, _, hY, hz⟩ | ⟨_, _, e, _⟩
    · exact absurd rfl e
    · dsimp only at e; omega
    · obtain ⟨_, rfl⟩ := last e1 e2; omega
    · obtain ⟨rfl, rfl⟩ := last e1 e2
      dsimp only at hY
      rw [List.take_left'  rfl] at hY
      obtain rfl := lay_good hY (by omega) hf'
      rcases hz with ⟨e, _⟩ | ⟨_, rfl⟩
      · exact absurd rfl e
      · dsimp only
        rw [show left - 1 - 1 = left - 2 by omega]
    · simp at e
theorem take_trunk {h : Hd} {left : Int} {B : Bk} {z : Took} {next : Int} (H : TakeD h left B z) (hx : h.x ≠ 0) (h0 : left ≠ 0) (hg : getB B h.t = trS next []) (hf : fitT next [] = true) (hn : next < h.p) (hd : decide (next = 0) = decide (h.x = 1)) :
    z = ⟨h.t, { h with t := next, x := h.x - 1 }, 0, left - 1, B⟩ := by
  rcases H with ⟨e, _⟩ | ⟨e, _⟩ | ⟨_, tr, hT, hz⟩
  · exact absurd e hx
  · exact absurd e hx
  · obtain rfl := trunk_good hT h0 hg hf
    rcases hz with ⟨e, _⟩ | ⟨_, e | ⟨k, x, e1, _⟩, _⟩ | ⟨_, _, k, x, y, e1, _⟩ | ⟨_, _, _, ⟨e, _⟩ | ⟨_, rfl⟩⟩
    · exact absurd rfl e
    · dsimp only at e; omega
    · cases e1
    · cases e1
    · exact absurd hd e
    · rfl
theorem give_first {h : Hd} {left : Int} {B : Bk} {n : Int} {z : Gave} (H : GiveD h left B n z) (hn : 1 ≤ n ∧ n < h.p) (hx : h.x < h.p - 1) (ht : h.t = 0) (h0 : left ≠ 0) : z = ⟨{ h with t := n, x := h.x + 1 }, 0, left - 1, putB B n (trS 0 [])⟩ := by
  rcases H with ⟨e, _⟩ | ⟨_, _, e, _⟩ | ⟨_, _, _, _, y, hY, hz⟩ | ⟨_, _, _, e, _⟩
  · omega
  · omega
  · rw [ht] at hY
    obtain rfl := lay_good hY h0 rfl
    rcases hz with ⟨e, _⟩ | ⟨_, rfl⟩
    · exact absurd rfl e
    · rfl
  · exact absurd ht e
theorem give_more {h : Hd} {left : Int} {B : Bk} {n : Int} {z : Gave} {next : Int} {ls : List Int} (H : GiveD h left B n z) (hn : 1 ≤ n ∧ n < h.p) (hx : h.x < h.p - 1) (ht : h.t ≠ 0) (h0 : left ≠ 0) (h1 : left ≠ 1)
    (hg : getB B h.t = trS next ls) (hf : fitT next ls = true) (hl : ls.length < 50) (hf' : fitT next (ls ++ [n]) = true) : z = ⟨{ h with x := h.x + 1 }, 0, left - 2, putB B h.t (trS next (ls ++ [n]))⟩ := by
  rcases H with ⟨e, _⟩ | ⟨_, _, e, _⟩ | ⟨_, _, _, e, _⟩ | ⟨_, _, _, _, tr, hT, hz⟩
  · omega
  · omega
  · exact absurd e ht
  · obtain rfl := trunk_good hT h0 hg hf
    rcases hz with ⟨e, _⟩ | ⟨_, _, y, hY, hz⟩ | ⟨_, e, _⟩
    · exact absurd rfl e
    · obtain rfl := lay_good hY (by dsimp only; omega) hf'
      rcases hz with ⟨e, _⟩ | ⟨_, rfl⟩
      · exact absurd rfl e
      · dsimp only
        rw [show left - 1 - 1 = left - 2 by omega]
    · dsimp only at e; omega
end Go.Proofs.YtpndofpcghfjdaaGreatDoor
