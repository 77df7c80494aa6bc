/- The program's taking and giving against the document's, in plain words; no key stands twice in a book. No program in sight. -/
import Derived.Test.YtcfnokifghpnpaaSpareRGive
namespace Go.Proofs.Ytcfnokifghpnpaa
def fitHd (h : Hd) : Bool := decide ((h.m = 1 ∨ h.m = 2) ∧ (1 ≤ h.p ∧ h.p ≤ 4096) ∧ (0 ≤ h.t ∧ h.t < h.p) ∧ (0 ≤ h.r ∧ h.r < h.p) ∧ (0 ≤ h.x ∧ h.x < h.p) ∧ (h.x = 0 ↔ h.t = 0))
theorem fitHd_iff {h : Hd} : fitHd h = true ↔ ((h.m = 1 ∨ h.m = 2) ∧ (1 ≤ h.p ∧ h.p ≤ 4096) ∧ (0 ≤ h.t ∧ h.t < h.p) ∧ (0 ≤ h.r ∧ h.r < h.p) ∧ (0 ≤ h.x ∧ h.x < h.p) ∧ (h.x = 0 ↔ h.t = 0)) := by simp [fitHd]
theorem dec_fit {s : ByteArray} (h : decTE s = 0) : fitT (decTN s) (decTL s) = true := by
  have e : isTrk s = true := by
    unfold decTE at h
    split at h
    · omega
    · split at h
      · assumption
      · omega
  obtain ⟨_, h2, h3⟩ := dec_good e
  rw [h2, h3]
  unfold isTrk at e
  simp only [Bool.and_eq_true] at e
  exact e.1.2
theorem fit_take {n : Int} {l : List Int} (k : Nat) (h : fitT n l = true) : fitT n (l.take k) = true := by
  obtain ⟨h1, h2, h3⟩ := fitT_iff.1 h
  refine fitT_iff.2 ⟨h1, by rw [List.length_take]; omega, List.any_eq_false.2 fun x hx => List.any_eq_false.1 h3 x (List.mem_of_mem_take hx)⟩
theorem fit_snoc {n x : Int} {l : List Int} (h : fitT n l = true) (hl : l.length < 50) (hx : 1 ≤ x ∧ x < 4096) : fitT n (l ++ [x]) = true := by
  obtain ⟨h1, h2, h3⟩ := fitT_iff.1 h
  refine fitT_iff.2 ⟨h1, by simp; omega, ?_⟩
  rw [List.any_append, h3]
  unfold oddT; simp; omega
/-- No key twice. -/
def KB (B : Bk) : Prop := (B.map Prod.fst).Nodup
theorem KB.nil : KB [] := List.nodup_nil
theorem keys_put (n : Int) (d : ByteArray) : ∀ B : Bk, ((putB B n d).map Prod.fst = B.map Prod.fst ∧ n ∈ B.map Prod.fst) ∨ ((putB B n d).map Prod.fst = B.map Prod.fst ++ [n] ∧ n ∉ B.map Prod.fst)
  | [] => .inr ⟨rfl, by simp⟩
  | p :: B => by
    rw [putB_cons]
    by_cases h : p.1 = n
    · rw [if_pos h]; exact .inl ⟨by simp [h], by simp [h]⟩
    · rw [if_neg h]
      rcases keys_put n d B with ⟨e, m⟩ | ⟨e, m⟩
      · exact .inl ⟨by simp only [List.map_cons, e], by simp only [List.map_cons]; exact List.mem_cons_of_mem _ m⟩
      · exact .inr ⟨by simp only [List.map_cons, e, List.cons_append], by simp only [List.map_cons, List.mem_cons, not_or]; exact ⟨fun e => h e.symm, m⟩⟩
theorem KB.put {B : Bk} {n : Int} {d : ByteArray} (h : KB B) : KB (putB B n d) := by
  unfold KB at *
  rcases keys_put n d B with ⟨e, _⟩ | ⟨e, m⟩
  · rw [e]; exact h
  · rw [e]
    exact List.nodup_append.2 ⟨h, by simp, fun a ha b hb => by rw [List.mem_singleton.1 hb]; rintro rfl; exact m ha⟩
theorem KB.get : ∀ {B : Bk} {k : Nat} {p : Int × ByteArray}, KB B → B[k]? = some p → getB B p.1 = p.2
  | [], k, p, _, e => by simp at e
  | q :: B, 0, p, _, e => by
    simp at e; subst e
    rw [getB_cons, if_pos rfl]
  | q :: B, k + 1, p, h, e => by
    have e' : B[k]? = some p := by simpa using e
    have h' : q.1 ∉ B.map Prod.fst ∧ (B.map Prod.fst).Nodup := List.nodup_cons.1 h
    rw [getB_cons, if_neg (fun hq => h'.1 (by rw [hq]; exact List.mem_map_of_mem (List.mem_of_getElem? e'))), KB.get h'.2 e']
/-- What both come to. -/
structure Agree (left left' : Int) (B B1 B2 : Bk) (h1 h2 : Hd) (e1 e2 : Int) : Prop where
  h : h1 = h2
  e : e1 = e2
  b : B1 = B2
  l : left' < 0 ∧ left - 2 ≤ left'
  len : B1.length ≤ B.length + 1
  kb : KB B → KB B1
theorem agree_take {h : Hd} {left : Int} {B : Bk} {z : Took} {y : RTook} (hl : left < 0) (H : TakeD h left B z) (H' : RTakeD h B y) : Agree left z.left B z.B y.B z.h y.h z.e y.e ∧ z.n = y.n := by
  rcases H with ⟨h1, h2, rfl⟩ | ⟨h1, h2, rfl⟩ | ⟨h1, tr, hT, hz⟩
  · rcases H' with ⟨_, _, rfl⟩ | ⟨_, _, rfl⟩ | ⟨e, _⟩
    · exact ⟨⟨rfl, rfl, rfl, by dsimp only; omega, by dsimp only; omega, id⟩, rfl⟩
    · omega
    · exact absurd h1 e
  · rcases H' with ⟨_, _, rfl⟩ | ⟨_, _, rfl⟩ | ⟨e, _⟩
    · omega
    · exact ⟨⟨rfl, rfl, rfl, by dsimp only; omega, by dsimp only; omega, id⟩, rfl⟩
    · exact absurd h1 e
  · rcases H' with ⟨e, _⟩ | ⟨e, _⟩ | ⟨_, tn, tl, te, rfl, rfl, rfl, H'⟩
    · exact absurd e h1
    · exact absurd e h1
    · rcases hT with ⟨e, _⟩ | ⟨_, ⟨e0, rfl⟩ | ⟨e0, rfl⟩⟩
      · omega
      · have hf := dec_fit e0
        rcases hz with ⟨e, _⟩ | ⟨_, e, rfl⟩ | ⟨_, e, k, l, y1, a1, a2, a3, hY, hz⟩ | ⟨_, e, e2, hz⟩
        · exact absurd rfl e
        · dsimp only at e
          rcases H' with ⟨_, rfl⟩ | ⟨_, f1, k, l, f2, f3, f4, _⟩ | ⟨_, f1, f2, _⟩
          · exact ⟨⟨rfl, rfl, rfl, by dsimp only; omega, by dsimp only; omega, id⟩, rfl⟩
          · rcases e with e | ⟨k', l', g1, g2, g3⟩
            · omega
            · obtain rfl : k = k' := by omega
              rw [f3] at g2; obtain rfl := Option.some.inj g2; omega
          · rcases e with e | ⟨k', l', g1, g2, g3⟩
            · omega
            · rw [f2] at g1; simp at g1
        · dsimp only at e a1 a2 hY
          obtain rfl := lay_good hY (by omega) (fit_take k hf)
          rcases hz with ⟨e, _⟩ | ⟨_, rfl⟩
          · exact absurd rfl e
          · rcases H' with ⟨f, rfl⟩ | ⟨_, f1, k', l', f2, f3, f4, rfl⟩ | ⟨_, f1, f2, _⟩
            · rcases f with f | f | ⟨k', l', f2, f3, f4⟩
              · exact absurd e0 f
              · omega
              · obtain rfl : k = k' := by omega
                rw [a2] at f3; obtain rfl := Option.some.inj f3; omega
            · obtain rfl : k = k' := by omega
              rw [a2] at f3; obtain rfl := Option.some.inj f3
              exact ⟨⟨rfl, rfl, rfl, by dsimp only; omega, putB_len _ _ _, KB.put⟩, rfl⟩
            · rw [f2] at a1; simp at a1
        · dsimp only at e e2 hz
          rcases H' with ⟨f, rfl⟩ | ⟨_, f1, k', l', f2, f3, f4, rfl⟩ | ⟨_, f1, f2, f3⟩
          · rcases f with f | f | ⟨k', l', f2, f3, f4⟩
            · exact absurd e0 f
            · omega
            · rw [e2] at f2; simp at f2
          · rw [e2] at f2; simp at f2
          · rcases hz with ⟨g, rfl⟩ | ⟨g, rfl⟩ <;> rcases f3 with ⟨g', rfl⟩ | ⟨g', rfl⟩
            · exact ⟨⟨rfl, rfl, rfl, by dsimp only; omega, by dsimp only; omega, id⟩, rfl⟩
            · exact absurd g' g
            · exact absurd g g'
            · exact ⟨⟨rfl, rfl, rfl, by dsimp only; omega, by dsimp only; omega, id⟩, rfl⟩
      · rcases hz with ⟨e, rfl⟩ | ⟨e, _⟩ | ⟨e, _⟩ | ⟨e, _⟩
        · rcases H' with ⟨f, rfl⟩ | ⟨f, _⟩ | ⟨f, _⟩
          · exact ⟨⟨rfl, rfl, rfl, by dsimp only; omega, by dsimp only; omega, id⟩, rfl⟩
          · exact absurd f e0
          · exact absurd f e0
        · cases e
        · cases e
        · cases e
theorem agree_give {h : Hd} {left n : Int} {B : Bk} {z : Gave} {y : RGave} (hl : left < 0) (hh : fitHd h = true) (H : GiveD h left B n z) (H' : RGiveD h B n y) : Agree left z.left B z.B y.B z.h y.h z.e y.e := by
  obtain ⟨_, q2, q3, _, _, _⟩ := fitHd_iff.1 hh
  have f0 : fitT h.t [] = true := fitT_iff.2 ⟨by omega, Nat.zero_le _, rfl⟩
  rcases H with ⟨h1, rfl⟩ | ⟨h1, h2, h3, rfl⟩ | ⟨h1, h2, h3, h4, y1, hY, hz⟩ | ⟨h1, h2, h3, h4, tr, hT, hz⟩
  · rcases H' with ⟨_, rfl⟩ | ⟨e1, e2, _⟩ | ⟨e1, e2, _⟩ | ⟨e1, e2, _⟩
    · exact ⟨rfl, rfl, rfl, by dsimp only; omega, by dsimp only; omega, id⟩
    all_goals omega
  · rcases H' with ⟨e1, _⟩ | ⟨_, _, _, rfl⟩ | ⟨_, _, e1, _⟩ | ⟨_, _, e1, _⟩
    · omega
    · exact ⟨rfl, rfl, rfl, by dsimp only; omega, by dsimp only; omega, id⟩
    all_goals omega
  · obtain rfl := lay_good hY (by omega) f0
    rcases hz with ⟨e, _⟩ | ⟨_, rfl⟩
    · exact absurd rfl e
    · rcases H' with ⟨e1, _⟩ | ⟨_, _, e1, _⟩ | ⟨_, _, _, _, rfl⟩ | ⟨_, _, _, e1, _⟩
      · omega
      · omega
      · exact ⟨rfl, rfl, rfl, by dsimp only; omega, putB_len _ _ _, KB.put⟩
      · exact absurd h4 e1
  · rcases H' with ⟨e1, _⟩ | ⟨_, _, e1, _⟩ | ⟨_, _, _, e1, _⟩ | ⟨_, _, _, _, tn, tl, te, rfl, rfl, rfl, H'⟩
    · omega
    · omega
    · exact absurd e1 h4
    · rcases hT with ⟨e, _⟩ | ⟨_, ⟨e0, rfl⟩ | ⟨e0, rfl⟩⟩
      · omega
      · have hf := dec_fit e0
        rcases hz with ⟨e, _⟩ | ⟨_, e, y1, hY, hz⟩ | ⟨_, e, y1, hY, hz⟩
        · exact absurd rfl e
        · dsimp only at e hY
          obtain rfl := lay_good hY (by omega) (fit_snoc hf e (by omega))
          rcases hz with ⟨e, _⟩ | ⟨_, rfl⟩
          · exact absurd rfl e
          · rcases H' with ⟨f, _⟩ | ⟨_, f, rfl⟩ | ⟨_, f, _⟩
            · exact absurd e0 f
            · exact ⟨rfl, rfl, rfl, by dsimp only; omega, putB_len _ _ _, KB.put⟩
            · omega
        · dsimp only at e hY
          obtain rfl := lay_good hY (by omega) f0
          rcases hz with ⟨e, _⟩ | ⟨_, rfl⟩
          · exact absurd rfl e
          · rcases H' with ⟨f, _⟩ | ⟨_, f, _⟩ | ⟨_, f, rfl⟩
            · exact absurd e0 f
            · omega
            · exact ⟨rfl, rfl, rfl, by dsimp only; omega, putB_len _ _ _, KB.put⟩
      · rcases hz with ⟨e, rfl⟩ | ⟨e, _⟩ | ⟨e, _⟩
        · rcases H' with ⟨f, rfl⟩ | ⟨f, _⟩ | ⟨f, _⟩
          · exact ⟨rfl, rfl, rfl, by dsimp only; omega, by dsimp only; omega, id⟩
          · exact absurd f e0
          · exact absurd f e0
        · cases e
        · cases e
end Go.Proofs.Ytcfnokifghpnpaa
