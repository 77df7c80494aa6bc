/- What the shelf's calls come to where nothing is armed and the free pages are whole. -/
import Derived.Test.YtpndofpcghfjdaaGreatDoorShelfOps
namespace Go.Proofs.YtpndofpcghfjdaaGreatDoor
structure ShI (h : Hd) (B : Bk) (ch : Ch) : Prop where
  rep : Rep B ch h.p
  ht : h.t = top ch
  hx : h.x = (fr ch).length
  hp : 1 ≤ h.p
theorem beg_ok {p left n : Int} {b : Int × Int} (H : BegD p left n b) (hl : left = -1) (hn : 1 ≤ n ∧ n < p) : b = (0, -1) := by
  subst hl
  rcases H with ⟨e, _⟩ | ⟨_, l', ⟨e, _⟩ | ⟨_, rfl⟩, ⟨e, _⟩ | ⟨_, _, rfl⟩⟩
  · omega
  · omega
  · omega
  · omega
  · rfl
theorem beg_any {p left n : Int} {b : Int × Int} (H : BegD p left n b) (hl : left = -1) : (b = (0, -1) ∨ b = (21, -1)) := by
  subst hl
  rcases H with ⟨e, _⟩ | ⟨_, l', ⟨e, _⟩ | ⟨_, rfl⟩, ⟨e, rfl⟩ | ⟨_, _, rfl⟩⟩
  · omega
  · omega
  · omega
  · exact .inr rfl
  · exact .inl rfl
theorem beg_armed {p left n : Int} {b : Int × Int} (H : BegD p left n b) (hl : left = 0) : b = (11, 0) := by
  rcases H with ⟨_, rfl⟩ | ⟨e, _⟩
  · rfl
  · exact absurd hl e
theorem lay_frame {left : Int} {B : Bk} {n next : Int} {l : List Int} {y : Int × Int × Bk} (h : LayD left B n next l y) {m : Int} (hm : m ≠ n) : getB y.2.2 m = getB B m := by
  rcases h with ⟨_, rfl⟩ | ⟨_, ⟨_, rfl⟩ | ⟨_, rfl⟩⟩
  · rfl
  · rfl
  · dsimp only; rw [getB_put, if_neg hm]
theorem give_frame {h : Hd} {left : Int} {B : Bk} {n : Int} {z : Gave} (H : GiveD h left B n z) {m : Int} (hm : m ≠ n) (hm' : h.t ≠ 0 → m ≠ h.t) : getB z.B m = getB B m := by
  have gl : ∀ {h' : Hd} {y : Int × Int × Bk}, GiveL h h' y z → getB y.2.2 m = getB B m → getB z.B m = getB B m := by
    rintro h' y (⟨_, rfl⟩ | ⟨_, rfl⟩) e <;> exact e
  rcases H with ⟨_, rfl⟩ | ⟨_, _, _, rfl⟩ | ⟨_, _, _, _, y, hY, hz⟩ | ⟨_, _, _, h0, tr, _, ⟨_, rfl⟩ | ⟨_, _, y, hY, hz⟩ | ⟨_, _, y, hY, hz⟩⟩
  · rfl
  · rfl
  · exact gl hz (lay_frame hY hm)
  · rfl
  · exact gl hz (lay_frame hY (hm' h0))
  · exact gl hz (lay_frame hY hm)
theorem take_frame {h : Hd} {left : Int} {B : Bk} {z : Took} (H : TakeD h left B z) {m : Int} (hm : h.x ≠ 0 → m ≠ h.t) : getB z.B m = getB B m := by
  rcases H with ⟨_, _, rfl⟩ | ⟨_, _, rfl⟩ | ⟨h0, tr, _, ⟨_, rfl⟩ | ⟨_, _, rfl⟩ | ⟨_, _, k, l, y, _, _, _, hY, ⟨_, rfl⟩ | ⟨_, rfl⟩⟩ | ⟨_, _, _, ⟨_, rfl⟩ | ⟨_, rfl⟩⟩⟩
  · rfl
  · rfl
  · rfl
  · rfl
  · exact lay_frame hY (hm h0)
  · exact lay_frame hY (hm h0)
  · rfl
  · rfl
theorem top_mem {ch : Ch} (h : ch ≠ []) : top ch ∈ fr ch := by
  match ch, h with
  | (p, l) :: r, _ => simp [top, fr]
theorem fr_none {ch : Ch} : fr ch = [] ↔ ch = [] := by
  match ch with
  | [] => exact ⟨fun _ => rfl, fun _ => rfl⟩
  | (p, l) :: r => simp [fr]
theorem Rep.put {B : Bk} {ch : Ch} {P n : Int} {d : ByteArray} (h : Rep B ch P) (hn : n ∉ fr ch) : Rep (putB B n d) ch P := ⟨h.lay.put hn, h.nodup, h.bound, h.room⟩
theorem ShI.put {h : Hd} {B : Bk} {ch : Ch} {n : Int} {d : ByteArray} (H : ShI h B ch) (hn : n ∉ fr ch) : ShI h (putB B n d) ch := ⟨H.rep.put hn, H.ht, H.hx, H.hp⟩
theorem ShI.bnd {h : Hd} {B : Bk} {ch : Ch} (H : ShI h B ch) : 0 ≤ h.x ∧ h.x ≤ 4096 ∧ 1 ≤ h.p ∧ h.p ≤ 4096 := by
  have h1 := H.hx
  have h2 := H.rep.room
  have h3 := H.hp
  have h4 := few (h.p - 1).toNat (fr ch) H.rep.nodup (fun x hx => by have := H.rep.bound x hx; omega)
  omega
theorem ShI.start : ShI ⟨1, 1, 0, 0, 0, 0⟩ [] [] := ⟨Rep.nil (by decide), rfl, rfl, by decide⟩
theorem put_good {h : Hd} {B : Bk} {n : Int} {d : ByteArray} {z : SN} (H : SPutD h (-1) B n d z) (hn : 1 ≤ n ∧ n < h.p) (hd : d.size = 232) : z = ⟨0, 0, h, putB B n d, -1⟩ := by
  obtain ⟨b, hb, H⟩ := H
  obtain rfl := beg_ok hb rfl hn
  rcases H with ⟨e, _⟩ | ⟨_, e, _⟩ | ⟨_, _, rfl⟩
  · exact absurd rfl e
  · exact absurd hd e
  · rfl
theorem get_good {p : Int} {B : Bk} {n : Int} {z : SG} (H : SGetD p (-1) B n z) (hn : 1 ≤ n ∧ n < p) : z = ⟨getB B n, 0, -1⟩ := by
  obtain ⟨b, hb, H⟩ := H
  obtain rfl := beg_ok hb rfl hn
  rcases H with ⟨e, _⟩ | ⟨_, rfl⟩
  · exact absurd rfl e
  · rfl
/-- A page that is freed. -/
structure FreeI (h : Hd) (B : Bk) (ch : Ch) (n : Int) (z : SN) (ch' : Ch) : Prop where
  e : z.e = 0
  left : z.left = -1
  inv : ShI z.h z.B ch'
  fr : fr ch' = n :: Go.Proofs.YtpndofpcghfjdaaGreatDoor.fr ch
  p : z.h.p = h.p
  x : z.h.x = h.x + 1
  frame : ∀ m, m ∉ Go.Proofs.YtpndofpcghfjdaaGreatDoor.fr ch → m ≠ n → getB z.B m = getB B m
theorem free_good {h : Hd} {B : Bk} {ch : Ch} {n : Int} {z : SN} (H : SFreeD h (-1) B n z) (I : ShI h B ch) (hn : 1 ≤ n ∧ n < h.p) (hnf : n ∉ fr ch) : ∃ ch', FreeI h B ch n z ch' := by
  obtain ⟨b, hb, H⟩ := H
  obtain rfl := beg_ok hb rfl hn
  rcases H with ⟨e, _⟩ | ⟨_, g, hG, hz⟩
  · exact absurd rfl e
  · obtain ⟨c', h1, h2, h3, h4, h5, h6⟩ := give_rep hG I.rep I.ht I.hx hn hnf (by decide)
    rcases hz with ⟨e, _⟩ | ⟨_, rfl⟩
    · exact absurd h1 e
    · refine ⟨c', rfl, rfl, ⟨?_, ?_, ?_, ?_⟩, h4, ?_, ?_, ?_⟩
      · dsimp only; rw [h2]; exact h5
      · dsimp only; rw [h2]
      · dsimp only; rw [h2, h4]; dsimp only; rw [I.hx]; simp
      · dsimp only; rw [h2]; exact I.hp
      · dsimp only; rw [h2]
      · dsimp only; rw [h2]
      · intro m hm hmn
        dsimp only
        refine give_frame hG hmn fun h0 e => ?_
        subst e
        have hc : ch ≠ [] := fun e => h0 (by rw [I.ht, e]; rfl)
        exact hm (I.ht ▸ top_mem hc)
/-- A page more. -/
structure NewI (lim : Int) (h : Hd) (B : Bk) (ch : Ch) (z : SN) (ch' : Ch) : Prop where
  e : z.e = 0
  left : z.left = -1
  inv : ShI z.h z.B ch'
  which : (fr ch = z.n :: fr ch' ∧ z.h.p = h.p ∧ z.h.x = h.x - 1 ∧ 0 < h.x) ∨ (fr ch = [] ∧ fr ch' = [] ∧ z.n = h.p ∧ z.h.p = h.p + 1 ∧ z.h.x = 0 ∧ h.x = 0 ∧ h.p < lim)
  blank : getB z.B z.n = blankS
  frame : ∀ m, m ∉ fr ch → m ≠ z.n → getB z.B m = getB B m
theorem new_good {lim : Int} {h : Hd} {B : Bk} {ch : Ch} {z : SN} (H : SNewD lim h (-1) B z) (I : ShI h B ch) (hlim : lim ≤ 4096) :
    (fr ch = [] ∧ h.x = 0 ∧ lim ≤ h.p ∧ z = ⟨0, 22, h, B, -1⟩) ∨ ∃ ch', NewI lim h B ch z ch' := by
  obtain ⟨b, hb, H⟩ := H
  have hx := I.hx
  rcases H with ⟨e1, e2, _⟩ | ⟨_, ⟨h1, h2, rfl⟩ | ⟨h1, t, hT, hz⟩⟩
  · rcases beg_any hb rfl with rfl | rfl
    · exact absurd rfl e1
    · exact absurd rfl e2
  · have e : b.2 = -1 := by rcases beg_any hb rfl with rfl | rfl <;> rfl
    exact .inl ⟨List.eq_nil_of_length_eq_zero (by omega), h1, h2, by rw [e]⟩
  · have e : b.2 = -1 := by rcases beg_any hb rfl with rfl | rfl <;> rfl
    rw [e] at hz
    have hfrm : ∀ m, m ∉ fr ch → getB t.B m = getB B m := fun m hm => take_frame hT fun h0 e => by
      subst e
      have hc : ch ≠ [] := fun e => h0 (by rw [hx, e]; rfl)
      exact hm (I.ht ▸ top_mem hc)
    right
    cases hf : fr ch with
    | nil =>
      have hx0 : h.x = 0 := by rw [hx, hf]; rfl
      have hc : ch = [] := fr_none.1 hf
      have ht := take_new hT hx0 (by omega)
      subst ht
      rcases hz with ⟨e, _⟩ | ⟨_, rfl⟩
      · exact absurd rfl e
      · subst hc
        refine ⟨[], rfl, rfl, ShI.put ⟨⟨trivial, List.nodup_nil, (fun y hy => by cases hy), by dsimp only; omega⟩, I.ht, hx, by have := I.hp; dsimp only; omega⟩ (by simp [fr]), .inr ⟨rfl, rfl, rfl, rfl, hx0, hx0, by omega⟩, ?_, ?_⟩
        · dsimp only; rw [getB_put, if_pos rfl]
        · intro m hm hmn
          dsimp only at hmn ⊢
          rw [getB_put, if_neg hmn]
    | cons y rest =>
      obtain ⟨c', h1, h2, h3, h4, h5, h6, h7⟩ := take_rep hT I.rep I.ht hx hf (by decide)
      rcases hz with ⟨e, _⟩ | ⟨_, rfl⟩
      · exact absurd h2 e
      · have hnd := I.rep.nodup
        rw [hf] at hnd
        have hyn : y ∉ fr c' := by rw [h5]; exact (List.nodup_cons.1 hnd).1
        have hlen : h.x = rest.length + 1 := by rw [hx, hf]; simp
        refine ⟨c', rfl, rfl, ShI.put ⟨?_, ?_, ?_, ?_⟩ (by (try dsimp only); rw [h1]; exact hyn), .inl ⟨by dsimp only; rw [h1, h5, hf], ?_, ?_, by omega⟩, ?_, ?_⟩
        · dsimp only; rw [h3]; exact h6
        · dsimp only; rw [h3]
        · dsimp only; rw [h3, h5]; dsimp only; omega
        · dsimp only; rw [h3]; exact I.hp
        · dsimp only; rw [h3]
        · dsimp only; rw [h3]
        · dsimp only; rw [getB_put, if_pos rfl]
        · intro m hm hmn
          dsimp only at hmn ⊢
          rw [getB_put, if_neg hmn]
          exact hfrm m hm
end Go.Proofs.YtpndofpcghfjdaaGreatDoor
