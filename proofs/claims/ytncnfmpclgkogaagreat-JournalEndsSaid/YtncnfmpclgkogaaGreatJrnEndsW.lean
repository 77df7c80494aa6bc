/- The law that an ended journal leaves the change: what its calls come to, its walk. -/
import Derived.Test.YtncnfmpclgkogaaGreatJrnChg
import Derived.Test.YtncnfmpclgkogaaGreatDiskOn
namespace Go.Proofs.YtncnfmpclgkogaaGreat
open Go.RowKit
set_option linter.unusedSimpArgs false
set_option linter.unusedVariables false
theorem close_ok {k n : Int} {s : Nat} {d : ByteArray} (hk : 0 ≤ k ∧ k < 4294967296) (hn : 0 ≤ n ∧ n < 4294967296) (hd : d.size = 232) : closeE k n d = 0 ∧ (closeS k n s d).size = 256 := by
  have hok : sealOk k n (bytesOf d) = true := sealOk_iff.2 ⟨hk, hn, by rw [bytesOf_length]; exact hd⟩
  unfold closeE closeS
  rw [if_pos hok, if_pos hok]
  exact ⟨rfl, by rw [strOf_size, sealL_length (by rw [bytesOf_length]; exact hd)]⟩
/-- A database under its journal, where nothing is amiss. -/
structure EI (p : Nat) (J : JM) (D : DM) (c : Nat) (n : Int) : Prop where
  up : UpD D n
  room : D.k.room = 16384
  ex : ∃ x j, D.fs = fs2 (some x) j ∧ p ≤ x.now.length ∧ x.now.length ≤ 8 + c ∧ lenO j ≤ c ∧ (0 < J.loose → ∃ y, j = some y)
  jb : JB J (p : Nat) 99 c
theorem EI.mono {p : Nat} {J : JM} {D : DM} {c c' : Nat} {n n' : Int} (h : EI p J D c n) (hc : c ≤ c') (hn : n ≤ n') : EI p J D c' n' := by
  obtain ⟨x, j, h1, h2, h3, h4, h5⟩ := h.ex
  exact ⟨h.up.mono hn, h.room, ⟨x, j, h1, h2, by omega, by omega, h5⟩, h.jb.mono hc⟩
section
variable {p : Nat} {J : JM} {D : DM} {c : Nat} {n : Int}
theorem lay_EI (h : EI p J D c n) (hc : c ≤ 1000) {salt kind number : Int} {d : ByteArray} (hk : 0 ≤ kind ∧ kind < 4294967296) (hm : 0 ≤ number ∧ number < 4294967296) (hd : d.size = 232) :
    (layD salt D kind number d).1 = 0 ∧ UpD (layD salt D kind number d).2 (n + 1) ∧ (layD salt D kind number d).2.k.room = 16384 ∧ ∃ x y, (layD salt D kind number d).2.fs = fs2 (some x) (some y) ∧ p ≤ x.now.length ∧ x.now.length ≤ 8 + c ∧ y.now.length ≤ c + 1 := by
  obtain ⟨x, j, h1, h2, h3, h4, h5⟩ := h.ex
  obtain ⟨c1, c2⟩ := close_ok (s := salt.toNat) hk hm hd
  have hok := lay_okN h.up.ok salt kind number d
  have hr := h.room
  obtain ⟨⟨_, down, at0⟩, _, _, _⟩ := h
  obtain ⟨k, fs⟩ := D
  dsimp only at h1 hr down at0
  subst h1
  have e : layD salt ⟨k, fs2 (some x) j⟩ kind number d = (0, ⟨upK k, fs2 (some x) (some (setO j (lenO j) (closeS kind number salt.toNat d)))⟩) := by
    unfold layD
    rw [if_pos c1, size2_jn, max_siz]
    exact write2_jn down at0 (some x) j c2 (by show ((x.now.length + lenO j : Nat) : Int) < _; omega)
  rw [e] at hok ⊢
  exact ⟨rfl, ⟨hok, down, at0⟩, hr, x, _, rfl, h2, h3, by have := (setO_len j (Nat.le_refl (lenO j)) (closeS kind number salt.toNat d)).2; omega⟩
theorem note_EI (h : EI p J D c n) (hc : c ≤ 1000) {q : Int} (hq : 0 ≤ q ∧ q < (p : Nat)) (hp : p < 9) {d : ByteArray} (hd : d.size = 232) : (noteJ J D q d).1 = 0 ∧ EI p (noteJ J D q d).2.1 (noteJ J D q d).2.2 (c + 1) (n + 1) := by
  have hJ := note_JB h.jb D q d
  have hno : ¬ (q < 0 ∨ J.pages ≤ q ∨ d.size ≠ 232) := by rw [h.jb.pages]; omega
  obtain ⟨l1, l2, l3, x, y, l4, l5, l6, l7⟩ := lay_EI h hc (salt := J.salt) (kind := 2) (number := q) (by decide) (by omega) hd
  unfold noteJ at hJ ⊢
  rw [if_neg hno] at hJ ⊢
  by_cases hm : q ∈ J.noted
  · rw [if_pos hm]
    exact ⟨rfl, h.mono (by omega) (by omega)⟩
  · rw [if_neg hm, if_pos l1] at hJ ⊢
    exact ⟨rfl, l2, l3, ⟨x, some y, l4, l5, by omega, l7, fun _ => ⟨y, rfl⟩⟩, hJ⟩
theorem seal_EI (h : EI p J D c n) (hc : c ≤ 1000) : (sealJ J D).1 = 0 ∧ EI p (sealJ J D).2.1 (sealJ J D).2.2 (c + 1) (n + 3) := by
  have hJ := seal_JB h.jb D
  have hl := h.jb.loose
  unfold sealJ at hJ ⊢
  by_cases hz : 0 < J.feet ∧ J.loose = 0
  · rw [if_pos hz]
    exact ⟨rfl, h.mono (by omega) (by omega)⟩
  · rw [if_neg hz] at hJ ⊢
    have hpre : (presyncJ J D).1 = 0 ∧ EI p J (presyncJ J D).2 c (n + 1) := by
      unfold presyncJ
      split
      · rename_i hlo
        obtain ⟨x, j, h1, h2, h3, h4, h5⟩ := h.ex
        obtain ⟨y, rfl⟩ := h5 hlo
        have hok := sync_okN h.up.ok jnN
        have hr := h.room
        have hjb := h.jb
        obtain ⟨⟨_, down, at0⟩, _, _, _⟩ := h
        obtain ⟨k, fs⟩ := D
        dsimp only at h1 hr down at0
        subst h1
        rw [sync2_jn down at0] at hok ⊢
        exact ⟨rfl, ⟨hok, down, at0⟩, hr, ⟨x, some (syncF y), rfl, h2, h3, h4, fun _ => ⟨_, rfl⟩⟩, hjb⟩
      · exact ⟨rfl, h.mono (Nat.le_refl _) (by omega)⟩
    obtain ⟨p1, p2⟩ := hpre
    dsimp only at hJ ⊢
    rw [if_neg (by rw [p1]; simp)] at hJ ⊢
    obtain ⟨l1, l2, l3, x, y, l4, l5, l6, l7⟩ := lay_EI p2 hc (salt := J.salt) (kind := 3) (number := J.loose) (d := footS J.pages J.feet) (by decide) (by omega) (footS_size _ _)
    rw [if_neg (by rw [l1]; simp)] at hJ ⊢
    have ht := sync_okN l2.ok jnN
    obtain ⟨D2, hD2⟩ : ∃ D2, D2 = (layD J.salt (presyncJ J D).2 3 J.loose (footS J.pages J.feet)).2 := ⟨_, rfl⟩
    rw [← hD2] at hJ ht l2 l3 l4 ⊢
    obtain ⟨_, down, at0⟩ := l2
    obtain ⟨k, fs⟩ := D2
    dsimp only at l4 l3 down at0
    subst l4
    rw [sync2_jn down at0] at hJ ht ⊢
    dsimp only at hJ ht ⊢
    rw [if_neg (by simp)] at hJ ⊢
    exact ⟨rfl, ⟨ht.mono (by omega), down, at0⟩, l3, ⟨x, some (syncF y), rfl, l5, by omega, l7, fun _ => ⟨_, rfl⟩⟩, hJ⟩
theorem write_EI (h : EI p J D c n) (hc : c ≤ 1000) {i : Nat} (hi : (i : Int) ≤ max (sizeD D mainN) 0) {d : ByteArray} (hd : d.size = 256) : (writeD D mainN (i : Nat) d).1 = 0 ∧ EI p J (writeD D mainN (i : Nat) d).2 (c + 1) (n + 1) := by
  obtain ⟨x, j, h1, h2, h3, h4, h5⟩ := h.ex
  have hok := write_okN h.up.ok mainN (i : Nat) d
  have hr := h.room
  have hjb := h.jb
  obtain ⟨⟨_, down, at0⟩, _, _, _⟩ := h
  obtain ⟨k, fs⟩ := D
  dsimp only at h1 hr down at0
  subst h1
  rw [size2_main, max_siz] at hi
  have hi2 : i ≤ lenO (some x) := by omega
  rw [write2_main down at0 (some x) j hd hi2 (by show ((x.now.length + lenO j : Nat) : Int) < _; omega)] at hok ⊢
  have hl := setO_len (some x) hi2 d
  have e : lenO (some x) = x.now.length := rfl
  exact ⟨rfl, ⟨hok, down, at0⟩, hr, ⟨_, j, rfl, by omega, by omega, by omega, h5⟩, hjb.mono (by omega)⟩
theorem sync_EI (h : EI p J D c n) : (syncD D mainN).1 = 0 ∧ EI p J (syncD D mainN).2 c (n + 1) := by
  obtain ⟨x, j, h1, h2, h3, h4, h5⟩ := h.ex
  have hok := sync_okN h.up.ok mainN
  have hr := h.room
  have hjb := h.jb
  obtain ⟨⟨_, down, at0⟩, _, _, _⟩ := h
  obtain ⟨k, fs⟩ := D
  dsimp only at h1 hr down at0
  subst h1
  rw [sync2_main down at0] at hok ⊢
  exact ⟨rfl, ⟨hok, down, at0⟩, hr, ⟨syncF x, j, rfl, h2, h3, h4, h5⟩, hjb⟩
end
set_option maxRecDepth 100000 in
theorem changed_EI {p : Nat} (hp : p < 9) (L : List ChT) : ∀ {J : JM} {D : DM} {b : Bool} {c : Nat} {n : Int}, EI p J D c n → c + 3 * L.length ≤ 900 →
    ∃ J' D', changedL (p : Nat) L J D b = (0, D') ∧ EI p J' D' (c + 3 * L.length) (n + 6 * L.length) := by
  induction L with
  | nil => exact fun h _ => ⟨_, _, rfl, h.mono (by simp) (by simp)⟩
  | cons y L ih =>
    intro J D b c n h hc
    rw [List.length_cons] at hc
    obtain ⟨q, _, hq2, hq3⟩ := pick_nat y p
    -- the note
    obtain ⟨J1, D1, ha, hE1⟩ : ∃ J1 D1, (0, J1, D1) = noteC J D (p : Nat) (q : Nat) ∧ EI p J1 D1 (c + 1) (n + 1) := by
      rcases Classical.em (((q : Nat) : Int) < ((p : Nat) : Int) ∧ ((q : Nat) : Int) ∉ J.noted) with hcq | hcq
      · obtain ⟨e, hE⟩ := note_EI h (by omega) (q := (q : Nat)) ⟨by omega, hcq.1⟩ hp (pgS_size 232 (q : Nat))
        refine ⟨_, _, ?_, hE⟩
        rw [noteC_yes hcq]
        exact Prod.ext e.symm (Prod.ext rfl rfl)
      · exact ⟨J, D, noteC_no hcq, h.mono (by omega) (by omega)⟩
    obtain ⟨J4, D4, hs, hE4⟩ : ∃ J4 D4, (0, J4, D4) = sealC J J1 D1 (p : Nat) (q : Nat) b ∧ EI p J4 D4 (c + 2) (n + 4) := by
      rcases Classical.em ((((q : Nat) : Int) < ((p : Nat) : Int) ∧ ((q : Nat) : Int) ∉ J.noted) ∨ b = false) with hcq | hcq
      · obtain ⟨e, hE⟩ := seal_EI hE1 (by omega)
        refine ⟨_, _, ?_, hE.mono (by omega) (by omega)⟩
        rw [sealC_yes hcq]
        exact Prod.ext e.symm (Prod.ext rfl rfl)
      · have hb : b = true := by
          cases b with
          | true => rfl
          | false => exact absurd (.inr rfl) hcq
        exact ⟨J1, D1, sealC_no (fun hh => hcq (.inl hh)) hb, hE1.mono (by omega) (by omega)⟩
    have fin : ∀ {J' : JM} {D' : DM}, EI p J' D' (c + 3) (n + 6) → ∃ J'' D'', changedL (p : Nat) L J' D' true = (0, D'') ∧ EI p J'' D'' (c + 3 * (L.length + 1)) (n + 6 * ((L.length + 1 : Nat) : Int)) := fun hE => by
      obtain ⟨J'', D'', e, hE''⟩ := ih (b := true) hE (by omega)
      exact ⟨J'', D'', e, hE''.mono (by omega) (by omega)⟩
    rw [List.length_cons]
    rcases Classical.em (max (sizeD D4 mainN) 0 < ((q : Nat) : Int)) with hm | hm
    · rw [chg3 hq3 ha rfl hs rfl hm]
      exact fin (hE4.mono (by omega) (by omega))
    · obtain ⟨e5, hE5⟩ := write_EI hE4 (by omega) (i := q) (by omega) (secM_size (n := (q : Nat)) (by omega) y.2.1)
      obtain ⟨D5, hD5⟩ : ∃ D5, D5 = (writeD D4 mainN (q : Nat) (secM (q : Nat) y.2.1)).2 := ⟨_, rfl⟩
      have hw : (0, D5) = writeD D4 mainN (q : Nat) (secM (q : Nat) y.2.1) := Prod.ext e5.symm hD5
      rw [← hD5] at hE5
      cases hy : y.2.2 with
      | false =>
        rw [chg7 hq3 ha rfl hs rfl hm hw rfl hy]
        exact fin (hE5.mono (by omega) (by omega))
      | true =>
        obtain ⟨e6, hE6⟩ := sync_EI hE5
        obtain ⟨D6, hD6⟩ : ∃ D6, D6 = (syncD D5 mainN).2 := ⟨_, rfl⟩
        have ht : (0, D6) = syncD D5 mainN := Prod.ext e6.symm hD6
        rw [← hD6] at hE6
        rw [chg6 hq3 ha rfl hs rfl hm hw rfl hy ht rfl]
        exact fin (hE6.mono (by omega) (by omega))
theorem LaydR.EI {p : Nat} {D : DM} (h : LaydR p D) (hp : 0 < p ∧ p < 9) : EI p ⟨(p : Nat), 99, [], 0, 0⟩ D 0 30 := by
  have hf := h.fs
  unfold laidF at hf
  rw [if_neg (by omega)] at hf
  refine ⟨h.up, h.room, ⟨_, none, hf, ?_, ?_, Nat.le_refl _, fun hh => absurd hh (Int.lt_irrefl 0)⟩, ⟨rfl, rfl, ⟨Int.le_refl _, Int.le_refl _⟩, ⟨Int.le_refl _, Int.le_refl _⟩⟩⟩
  · dsimp only; rw [laidM_len]; exact Nat.le_refl _
  · dsimp only; rw [laidM_len]; omega
theorem LaydR.nojn {p : Nat} {D : DM} (h : LaydR p D) : sizeD D jnN < 0 := by
  have hf := h.fs
  obtain ⟨k, fs⟩ := D
  dsimp only at hf
  subst hf
  rw [size2_jn]
  show (-1 : Int) < 0
  decide
theorem laid_changed {p : Nat} {D : DM} (h : LaydR p D) (hp : 0 < p ∧ p < 9) (L : List ChT) : ∃ J' D', changedD (p : Nat) L D = (0, D') ∧ EI p J' D' 60 200 := by
  have hl : (L.take 20).length ≤ 20 := by rw [List.length_take]; omega
  obtain ⟨J', D', e, hE⟩ := changed_EI hp.2 (L.take 20) (b := false) (h.EI hp) (by omega)
  exact ⟨J', D', by unfold changedD; exact e, hE.mono (by omega) (by omega)⟩
/-! Nothing waits: a loss of power changes nothing. -/
theorem trim_some' : ∀ (l : List Cv), trimC (l.map some) = l.map some
  | [] => rfl
  | c :: l => by
    show trimC (some c :: l.map some) = some c :: l.map some
    unfold trimC
    rw [trim_some' l]
    cases l.map some <;> rfl
theorem fates_safe (l : List Int) : ∀ (ns : List Cv) (ss : List (Option Cv)) (u : Nat), ns.length = ss.length → (fates l ns ss (List.replicate ns.length false) u).1 = ss
  | [], [], _, _ => rfl
  | n :: ns, s :: ss, u, h => by
    have e : (fates l (n :: ns) (s :: ss) (List.replicate (n :: ns).length false) u).1 = s :: (fates l ns ss (List.replicate ns.length false) u).1 := rfl
    rw [e, fates_safe l ns ss u (by simpa using h)]
theorem on_synced (F : List Int) (x : Fl) : onF F (fs2 (some (syncF x)) none) 0 = fs2 (some ⟨x.now, x.now.map some, List.replicate x.now.length false, true⟩) none := by
  have e : (fatedF F (syncF x) 0).1 = ⟨x.now, x.now.map some, List.replicate x.now.length false, true⟩ := by
    unfold fatedF syncF
    dsimp only
    rw [fates_safe F x.now (x.now.map some) 0 (by rw [List.length_map]), trim_some', List.map_map]
    have : (fillC ∘ some : Cv → Cv) = id := rfl
    rw [this, List.map_id]
  show (if (fatedF F (syncF x) 0).1.now = [] ∧ (syncF x).sure = false then [] else [(mainN, { (fatedF F (syncF x) 0).1 with sure := true })]) = _
  rw [if_neg (fun h => by cases h.2), e]
  rfl
/-- What the law's last calls meet. -/
structure Fin1 (x : Fl) (D : DM) (n : Int) : Prop where
  ok : D.OkN n
  jn : sizeD D jnN < 0
  by' : bytesD D mainN = strOf (x.now.flatMap cellB)
theorem bytes2 (k : Dk) (x : Fl) (j : Option Fl) : bytesD ⟨k, fs2 (some x) j⟩ mainN = strOf (x.now.flatMap cellB) := by unfold bytesD; rw [find2_main]; rfl
theorem bytes2s (k : Dk) (x : Fl) (j : Option Fl) : bytesD ⟨k, fs2 (some (syncF x)) j⟩ mainN = strOf (x.now.flatMap cellB) := bytes2 k (syncF x) j
/-- Synced, and then without a journal. -/
theorem end_sync {p : Nat} {J : JM} {D : DM} {c : Nat} {n : Int} (h : EI p J D c n) : ∃ k x j, syncD D mainN = (0, ⟨k, fs2 (some (syncF x)) j⟩) ∧ UpD ⟨k, fs2 (some (syncF x)) j⟩ (n + 1) := by
  obtain ⟨x, j, h1, h2, h3, h4, h5⟩ := h.ex
  have hok := sync_okN h.up.ok mainN
  obtain ⟨⟨_, down, at0⟩, _, _, _⟩ := h
  obtain ⟨k, fs⟩ := D
  dsimp only at h1 down at0
  subst h1
  rw [sync2_main down at0] at hok ⊢
  exact ⟨upK k, x, j, rfl, hok, down, at0⟩
theorem end_on {k : Dk} {x : Fl} {n : Int} (h : UpD ⟨k, fs2 (some (syncF x)) none⟩ n) (F : List Int) : Fin1 x (onD (offD ⟨k, fs2 (some (syncF x)) none⟩) F) (n + 1) := by
  have hok := on_okN (off_okN h.ok) F
  have e : ∃ k', onD (offD ⟨k, fs2 (some (syncF x)) none⟩) F = ⟨k', fs2 (some ⟨x.now, x.now.map some, List.replicate x.now.length false, true⟩) none⟩ := by
    have hd : (offD ⟨k, fs2 (some (syncF x)) none⟩).k.down = true := by
      unfold offD
      rw [if_neg (by rw [h.down]; decide)]
    have hfs : (offD ⟨k, fs2 (some (syncF x)) none⟩).fs = fs2 (some (syncF x)) none := rfl
    unfold onD
    rw [if_pos hd, hfs, on_synced]
    exact ⟨_, rfl⟩
  obtain ⟨k', e⟩ := e
  rw [e] at hok ⊢
  refine ⟨hok, ?_, bytes2 _ _ _⟩
  rw [size2_jn]
  show (-1 : Int) < 0
  decide
theorem foundJ_none {D : DM} (h : sizeD D jnN < 0) : foundJ D = ((0, 0, [], false), D) := by
  have e : findJ D = ((0, fm0), D) := by
    unfold findJ
    rw [show (max (sizeD D jnN) 0).toNat = 0 by omega]
    rfl
  unfold foundJ
  rw [e]
  rfl
theorem gon_none {D : DM} (h : sizeD D jnN < 0) : gonJ D = (0, D) := by unfold gonJ; rw [if_pos h]
theorem end_drop {k : Dk} {x : Fl} {j : Option Fl} {n : Int} (h : UpD ⟨k, fs2 (some (syncF x)) j⟩ n) :
    (0 ≤ sizO j → ∃ k', dropD ⟨k, fs2 (some (syncF x)) j⟩ jnN = (0, ⟨k', fs2 (some (syncF x)) none⟩) ∧ UpD ⟨k', fs2 (some (syncF x)) none⟩ (n + 1)) ∧ (sizO j < 0 → j = none) := by
  cases j with
  | none => exact ⟨fun hh => absurd hh (by show ¬ (0 : Int) ≤ -1; decide), fun _ => rfl⟩
  | some y =>
    have hok := drop_okN h.ok jnN
    have e := drop2_jn h.down h.at0 (some (syncF x)) y
    rw [e] at hok
    exact ⟨fun _ => ⟨upK k, e, hok, h.down, h.at0⟩, fun hh => absurd hh (by show ¬ ((y.now.length : Nat) : Int) < 0; omega)⟩
theorem wrap_u {n : Int} {K : Int → Prop} (h : ∀ r, 0 ≤ r → r ≤ 18446744073709551615 → K r) : ∃ r, r = IntKind.u64.wrap n ∧ K r := ⟨_, rfl, h _ (by rw [IntKind.wrap_u64]; omega) (by rw [IntKind.wrap_u64]; omega)⟩
theorem rem_u {a : Int} {d : Nat} {K : Int → Prop} (h0 : 0 ≤ a) (hd : 0 < d) (h : ∀ q : Nat, q < d → K (q : Int)) : ∃ r, r = a.tmod (d : Int) ∧ K r := by
  refine ⟨_, rfl, ?_⟩
  obtain ⟨b, rfl⟩ := Int.eq_ofNat_of_zero_le h0
  have e : (b : Int).tmod (d : Int) = ((b % d : Nat) : Int) := by rw [Int.tmod_eq_emod_of_nonneg h0]; norm_cast
  rw [e]
  exact h _ (Nat.mod_lt _ hd)
attribute [local irreducible] numOf fixedL bytesOf strOf strEq strLt sfrom closeS closeE layD footS writeD sizeD syncD dropD readD bytesD noteJ sealJ gonJ findJ foundJ pgS newD fullS eqPg secM changedL changedD noteC sealC pickN onD offD fs2 syncF sizO
set_option maxRecDepth 100000 in
theorem back_no (S : Nat → Prop) (D : DM) {N : Int} (hD : D.OkN N) (hN : N ≤ 900000) (hz : sizeD D jnN < 0) :
    CallOb Tryz.prog 16 [ptr 0] [(0, diskI S D)] 1 (fun v h m => ∃ x : Int × (Nat → Prop), x.1 = 0 ∧ v = iv x.1 ∧ h = [(0, diskI x.2 D)] ∧ m = 150) := by
  refine call_spec tabOk mixed Tryz.call16 Tryz.func16 rfl [] (fun x : Int × (Nat → Prop) => x.1 = 0) (fun x => iv x.1) (fun x => [(0, diskI x.2 D)]) (fun _ => 150) ?_ ?_
  · exact (Nat.le_of_ble_eq_true rfl)
  have hfn := foundJ_none hz
  have hgn := gon_none hz
  (repeat' ((try (conv => whnf)); first | (guard_target =~ ∃ (_ : Value), ∃ (_ : HP), ∃ (_ : HP), _; refine ⟨_, _, _, (by refine ⟨?_, ?_, ?_⟩; (first | apply rR_tuple | apply rR_one rfl | exact rfl); all_goals (repeat' (first | (with_reducible (first | exact relH_nil | apply rn_lst | apply rn_own | apply rn_mp | apply rn_row | apply rn_abs | exact wo_nil)) | apply wo_keep rfl | apply wo_drop rfl | exact relH_nil | exact r1_flat rfl | exact r0_flat rfl | exact rl_nil | exact wo_nil | exact bk_old rfl | exact bk_new rfl | exact bk_nil rfl | apply rl_cons | (first | exact relL_flat (flat_bind (f := chv) (fun _ => rfl) _) | exact relL_flat (flat_bind (f := pgv) (fun _ => rfl) _) | exact relL_flat (flat_map (fun _ => rfl) _) | first | exact relL_still hvs | exact relL_still (still_map (fun _ => rfl) _) | exact relL_still (still_map ro_still _) | exact relL_flat (flat_map (fun _ => rfl) _) | apply relL_set) | exact relL_flat (flat_map (fun _ => rfl) _) | exact relL_flat flat_nil | apply relL_to | apply rn_lst | apply rn_own | apply rn_mp | apply rn_row | apply relH_view rfl | apply relH_lview rfl | apply relH_fact rfl | exact r1_rig | exact r0_rig | exact r1_rigs | exact r0_rigs | apply wo_keep rfl | apply wo_drop rfl | apply r1_agg | apply rn_ptr | apply rn_slice | apply rn_slice0 | apply rn_iface | apply rn_map | apply rn_ifacem | apply r0_map | apply r0_ifacem | apply r0_ptr | apply r0_slice | apply r0_slice0 | apply r0_iface)); (first | done | fail)), ?_⟩; (try (dsimp only [Nat.reduceAdd, List.cons_append, List.nil_append]))) | (guard_target =~ CallOb _ 13 _ _ _ _; refine call_q (find_c S D hD hN) [(0, some 0)] (by have nw := True.intro; (repeat' (first | exact True.intro | (with_reducible exact rfl) | (with_reducible exact AbsLe.refl) | (guard_target =~ @Eq Nat _ _; first | exact rfl | omega) | (guard_target =~ List.map _ _ = []; exact rfl) | (first | (guard_target =~ @Eq (List Value) _ _; exact rfl) | exact covL_of rfl (flat_bind (f := chv) (fun _ => rfl) _) | exact covL_of rfl (flat_bind (f := pgv) (fun _ => rfl) _) | exact covL_of rfl (flat_map (fun _ => rfl) _) | first | exact covL_still rfl hvs | exact covL_still rfl (still_map (fun _ => rfl) _) | exact covL_still rfl (still_map ro_still _) | (apply covL_set <;> (try clear nw) <;> have nw := True.intro) | exact congrArg (Value.int _) (by (try dsimp only); omega)) | (exact congrArg (Value.int _) (by omega)) | (exact covL_flat (flat_map (fun _ => rfl) _)) | (exact covL_flat flat_nil) | (refine covP_all ?_; (try clear nw); have nw := True.intro) | (refine covL_each ?_; (try clear nw); have nw := True.intro) | (refine ⟨?_, ?_⟩ <;> (try clear nw) <;> have nw := True.intro) | (guard_hyp nw : True; ((conv => whnf) <;> clear nw)))); (first | done | fail)) (by rfl) (by rfl) (by rfl) (fun v h1 n1 hp => ?_); obtain ⟨⟨⟨e5, pg, sr, is⟩, D5, S5, cp⟩, ⟨hr5, hcp⟩, rfl, rfl, rfl⟩ := hp; dsimp only at hr5 hcp; rw [hfn] at hr5; simp only [Prod.mk.injEq] at hr5; obtain ⟨⟨he5, hpg, hsr, his⟩, hD5⟩ := hr5; subst hD5; (try (dsimp only [Nat.reduceAdd, List.cons_append, List.nil_append]))) | (guard_target =~ CallOb _ 54 _ _ _ _; refine call_q (gon_c S5 D5 hD hN) [(0, some 0)] (by have nw := True.intro; (repeat' (first | exact True.intro | (with_reducible exact rfl) | (with_reducible exact AbsLe.refl) | (guard_target =~ @Eq Nat _ _; first | exact rfl | omega) | (guard_target =~ List.map _ _ = []; exact rfl) | (first | (guard_target =~ @Eq (List Value) _ _; exact rfl) | exact covL_of rfl (flat_bind (f := chv) (fun _ => rfl) _) | exact covL_of rfl (flat_bind (f := pgv) (fun _ => rfl) _) | exact covL_of rfl (flat_map (fun _ => rfl) _) | first | exact covL_still rfl hvs | exact covL_still rfl (still_map (fun _ => rfl) _) | exact covL_still rfl (still_map ro_still _) | (apply covL_set <;> (try clear nw) <;> have nw := True.intro) | exact congrArg (Value.int _) (by (try dsimp only); omega)) | (exact congrArg (Value.int _) (by omega)) | (exact covL_flat (flat_map (fun _ => rfl) _)) | (exact covL_flat flat_nil) | (refine covP_all ?_; (try clear nw); have nw := True.intro) | (refine covL_each ?_; (try clear nw); have nw := True.intro) | (refine ⟨?_, ?_⟩ <;> (try clear nw) <;> have nw := True.intro) | (guard_hyp nw : True; ((conv => whnf) <;> clear nw)))); (first | done | fail)) (by rfl) (by rfl) (by rfl) (fun v h1 n1 hp => ?_); obtain ⟨⟨eg, D6, S6⟩, hg, rfl, rfl, rfl⟩ := hp; dsimp only at hg; rw [hgn] at hg; simp only [Prod.mk.injEq] at hg; obtain ⟨hg1, hg2⟩ := hg; subst hg2; (try (dsimp only [Nat.reduceAdd, List.cons_append, List.nil_append]))) | (with_reducible refine chk_in (Nat.ble_eq_true_of_le (by omega)) ?_) | (with_reducible refine ifB_in ?_ ?_ <;> intro hb <;> (try simp only [decide_eq_true_eq, decide_eq_false_iff_not, Int.not_lt, Int.not_le, ne_eq, Decidable.not_not, Bool.not_eq_true', Bool.not_eq_false', gt_iff_lt, ge_iff_le] at hb) <;> (try (exfalso; omega))) | (with_reducible refine ⟨_, w64b _, ?_⟩) | (with_reducible refine ⟨_, w64 (by omega) (by omega), ?_⟩) | (with_reducible refine ⟨_, wu64 (by omega) (by omega), ?_⟩) | (with_reducible refine ⟨_, wu8 (by omega) (by omega), ?_⟩) | (with_reducible refine ⟨_, w64 (by (simp only [size_sfrom, ByteArray.size_extract, ByteArray.size_append, strOf_size, fixedL_length, lit_size, List.size_toArray, List.length_cons, List.length_nil, List.length_append, List.length_replicate]; omega)) (by (simp only [size_sfrom, ByteArray.size_extract, ByteArray.size_append, strOf_size, fixedL_length, lit_size, List.size_toArray, List.length_cons, List.length_nil, List.length_append, List.length_replicate]; omega)), ?_⟩) | (with_reducible refine ⟨_, rfl, ?_⟩) | (with_reducible refine ⟨rfl, ?_⟩) | (intro cap) | (with_reducible refine ⟨trivial, ?_⟩) | (guard_target =~ (planChk _ _ = true) ∧ _; refine ⟨by kernel_rfl, ?_⟩) | (guard_target =~ (_ ∧ _) ∧ _; refine ⟨by ((repeat (first | exact trivial | refine ⟨rfl, ?_⟩)); (first | done | fail)), ?_⟩) | (refine ⟨by omega, ?_⟩) | (refine ⟨by (simp only [size_sfrom, ByteArray.size_extract, ByteArray.size_append, strOf_size, fixedL_length, lit_size, List.size_toArray, List.length_cons, List.length_nil, List.length_append, List.length_replicate]; omega), ?_⟩) | (refine ⟨0, rfl, ?_⟩) | (refine ⟨1, rfl, ?_⟩) | (refine ⟨2, rfl, ?_⟩) | (refine ⟨3, rfl, ?_⟩) | (refine ⟨4, rfl, ?_⟩) | (refine ⟨5, rfl, ?_⟩) | (refine cell_at1 (by assumption) ?_) | (refine cell_in1 (by omega) (fun x hx => ?_)) | fail)) <;> (try (conv => whnf))
  all_goals first
    | exact Bool.noConfusion (his.symm.trans hb)
    | ((refine Ends.go ((eg, S6)) ?_ [(0, some 0)] (Fit.q (by have nw := True.intro; (repeat' (first | exact True.intro | (with_reducible exact rfl) | (with_reducible exact AbsLe.refl) | (guard_target =~ @Eq Nat _ _; first | exact rfl | omega) | (guard_target =~ List.map _ _ = []; exact rfl) | (first | (guard_target =~ @Eq (List Value) _ _; exact rfl) | exact covL_of rfl (flat_bind (f := chv) (fun _ => rfl) _) | exact covL_of rfl (flat_bind (f := pgv) (fun _ => rfl) _) | exact covL_of rfl (flat_map (fun _ => rfl) _) | first | exact covL_still rfl hvs | exact covL_still rfl (still_map (fun _ => rfl) _) | exact covL_still rfl (still_map ro_still _) | (apply covL_set <;> (try clear nw) <;> have nw := True.intro) | exact congrArg (Value.int _) (by (try dsimp only); omega)) | (exact congrArg (Value.int _) (by omega)) | (exact covL_flat (flat_map (fun _ => rfl) _)) | (exact covL_flat flat_nil) | (refine covP_all ?_; (try clear nw); have nw := True.intro) | (refine covL_each ?_; (try clear nw); have nw := True.intro) | (refine ⟨?_, ?_⟩ <;> (try clear nw) <;> have nw := True.intro) | (guard_hyp nw : True; ((conv => whnf) <;> clear nw)))); (first | done | fail)) (by rfl) (by rfl))); exact hg1)
    | trace_state
set_option maxRecDepth 100000 in
set_option maxHeartbeats 4000000 in
theorem journalEnds_c (pages : Int) (L : List ChT) (cap : Nat) (F : List Int) (capf : Nat) (hpg0 : -9223372036854775808 ≤ pages ∧ pages ≤ 9223372036854775807) (hL : ∀ y ∈ L, 0 ≤ y.2.1 ∧ y.2.1 ≤ 255) (hl : L.length ≤ 4611686018427387904) (hlf : F.length ≤ 4611686018427387904) :
    CallOb Tryz.prog 5 [iv pages, mslice 0 L.length cap, mslice 1 F.length capf] [(0, .lview (L.flatMap chv)), (1, .lview (F.map iv))] 2 (fun v hh m => ∃ z : Bool, z = true ∧ v = .bool z ∧ hh = [] ∧ m = 2) := by
  refine call_spec tabOk mixed Tryz.call5 Tryz.func5 rfl [] (fun z : Bool => z = true) (fun z => .bool z) (fun _ => []) (fun _ => 2) ?_ ?_
  · exact (Nat.le_of_ble_eq_true rfl)
  (repeat' ((try (conv => whnf)); first | (guard_target =~ ∃ (_ : Value), ∃ (_ : HP), ∃ (_ : HP), _; refine ⟨_, _, _, (by refine ⟨?_, ?_, ?_⟩; (first | apply rR_tuple | apply rR_one rfl | exact rfl); all_goals (repeat' (first | (with_reducible (first | exact relH_nil | apply rn_lst | apply rn_own | apply rn_mp | apply rn_row | apply rn_abs | exact wo_nil)) | apply wo_keep rfl | apply wo_drop rfl | exact relH_nil | exact r1_flat rfl | exact r0_flat rfl | exact rl_nil | exact wo_nil | exact bk_old rfl | exact bk_new rfl | exact bk_nil rfl | apply rl_cons | (first | exact relL_flat (flat_bind (f := chv) (fun _ => rfl) _) | exact relL_flat (flat_bind (f := pgv) (fun _ => rfl) _) | exact relL_flat (flat_map (fun _ => rfl) _) | first | exact relL_still hvs | exact relL_still (still_map (fun _ => rfl) _) | exact relL_still (still_map ro_still _) | exact relL_flat (flat_map (fun _ => rfl) _) | apply relL_set) | exact relL_flat (flat_map (fun _ => rfl) _) | exact relL_flat flat_nil | apply relL_to | apply rn_lst | apply rn_own | apply rn_mp | apply rn_row | apply relH_view rfl | apply relH_lview rfl | apply relH_fact rfl | exact r1_rig | exact r0_rig | exact r1_rigs | exact r0_rigs | apply wo_keep rfl | apply wo_drop rfl | apply r1_agg | apply rn_ptr | apply rn_slice | apply rn_slice0 | apply rn_iface | apply rn_map | apply rn_ifacem | apply r0_map | apply r0_ifacem | apply r0_ptr | apply r0_slice | apply r0_slice0 | apply r0_iface)); (first | done | fail)), ?_⟩; (try (dsimp only [Nat.reduceAdd, List.cons_append, List.nil_append]))) | (guard_target =~ CallOb _ 6 _ _ _ _; refine call_q awakeJ_c [] (by have nw := True.intro; (repeat' (first | exact True.intro | (with_reducible exact rfl) | (with_reducible exact AbsLe.refl) | (guard_target =~ @Eq Nat _ _; first | exact rfl | omega) | (guard_target =~ List.map _ _ = []; exact rfl) | (first | (guard_target =~ @Eq (List Value) _ _; exact rfl) | exact covL_of rfl (flat_bind (f := chv) (fun _ => rfl) _) | exact covL_of rfl (flat_bind (f := pgv) (fun _ => rfl) _) | exact covL_of rfl (flat_map (fun _ => rfl) _) | first | exact covL_still rfl hvs | exact covL_still rfl (still_map (fun _ => rfl) _) | exact covL_still rfl (still_map ro_still _) | (apply covL_set <;> (try clear nw) <;> have nw := True.intro) | exact congrArg (Value.int _) (by (try dsimp only); omega)) | (exact congrArg (Value.int _) (by omega)) | (exact covL_flat (flat_map (fun _ => rfl) _)) | (exact covL_flat flat_nil) | (refine covP_all ?_; (try clear nw); have nw := True.intro) | (refine covL_each ?_; (try clear nw); have nw := True.intro) | (refine ⟨?_, ?_⟩ <;> (try clear nw) <;> have nw := True.intro) | (guard_hyp nw : True; ((conv => whnf) <;> clear nw)))); (first | done | fail)) (by rfl) (by rfl) (by rfl) (fun v h1 n1 hp => ?_); obtain ⟨_, rfl, rfl, rfl, rfl⟩ := hp; (try (dsimp only [Nat.reduceAdd, List.cons_append, List.nil_append]))) | (guard_target =~ ∃ r, r = IntKind.wrap .u64 pages ∧ _; refine wrap_u (fun r hr0 hr1 => ?_)) | (refine rem_u (d := 8) (by omega) (by omega) (fun q0 hq0 => ?_); obtain ⟨pn, hpn⟩ : ∃ pn : Nat, pn = q0 + 1 := ⟨_, rfl⟩; have hadd : ((pn : Nat) : Int) = IntKind.i64.wrap (1 + (q0 : Int)) := (by rw [← w64 (by omega) (by omega), hpn]; omega)) | (guard_target =~ ∃ r, r = IntKind.wrap .i64 (1 + ((q0 : Nat) : Int)) ∧ _; refine ⟨((pn : Nat) : Int), hadd, ?_⟩; clear hadd) | (guard_target =~ CallOb _ 22 _ _ _ _; refine call_q (laid_c pn (by omega)) [] (by have nw := True.intro; (repeat' (first | exact True.intro | (with_reducible exact rfl) | (with_reducible exact AbsLe.refl) | (guard_target =~ @Eq Nat _ _; first | exact rfl | omega) | (guard_target =~ List.map _ _ = []; exact rfl) | (first | (guard_target =~ @Eq (List Value) _ _; exact rfl) | exact covL_of rfl (flat_bind (f := chv) (fun _ => rfl) _) | exact covL_of rfl (flat_bind (f := pgv) (fun _ => rfl) _) | exact covL_of rfl (flat_map (fun _ => rfl) _) | first | exact covL_still rfl hvs | exact covL_still rfl (still_map (fun _ => rfl) _) | exact covL_still rfl (still_map ro_still _) | (apply covL_set <;> (try clear nw) <;> have nw := True.intro) | exact congrArg (Value.int _) (by (try dsimp only); omega)) | (exact congrArg (Value.int _) (by omega)) | (exact covL_flat (flat_map (fun _ => rfl) _)) | (exact covL_flat flat_nil) | (refine covP_all ?_; (try clear nw); have nw := True.intro) | (refine covL_each ?_; (try clear nw); have nw := True.intro) | (refine ⟨?_, ?_⟩ <;> (try clear nw) <;> have nw := True.intro) | (guard_hyp nw : True; ((conv => whnf) <;> clear nw)))); (first | done | fail)) (by rfl) (by rfl) (by rfl) (fun v h1 n1 hp => ?_); obtain ⟨⟨D0, S0⟩, hL0, rfl, rfl, rfl⟩ := hp; dsimp only at hL0; (try (dsimp only [Nat.reduceAdd, List.cons_append, List.nil_append]))) | (guard_target =~ CallOb _ 24 _ _ _ _; refine call_q (changed_c pn (by omega) S0 D0 hL0.up.ok (by decide) hL0.nojn L cap (fun y hy => (hL y hy)) hl) [(0, some 2), (1, some 0)] (by have nw := True.intro; (repeat' (first | exact True.intro | (with_reducible exact rfl) | (with_reducible exact AbsLe.refl) | (guard_target =~ @Eq Nat _ _; first | exact rfl | omega) | (guard_target =~ List.map _ _ = []; exact rfl) | (first | (guard_target =~ @Eq (List Value) _ _; exact rfl) | exact covL_of rfl (flat_bind (f := chv) (fun _ => rfl) _) | exact covL_of rfl (flat_bind (f := pgv) (fun _ => rfl) _) | exact covL_of rfl (flat_map (fun _ => rfl) _) | first | exact covL_still rfl hvs | exact covL_still rfl (still_map (fun _ => rfl) _) | exact covL_still rfl (still_map ro_still _) | (apply covL_set <;> (try clear nw) <;> have nw := True.intro) | exact congrArg (Value.int _) (by (try dsimp only); omega)) | (exact congrArg (Value.int _) (by omega)) | (exact covL_flat (flat_map (fun _ => rfl) _)) | (exact covL_flat flat_nil) | (refine covP_all ?_; (try clear nw); have nw := True.intro) | (refine covL_each ?_; (try clear nw); have nw := True.intro) | (refine ⟨?_, ?_⟩ <;> (try clear nw) <;> have nw := True.intro) | (guard_hyp nw : True; ((conv => whnf) <;> clear nw)))); (first | done | fail)) (by rfl) (by rfl) (by rfl) (fun v h1 n1 hp => ?_); obtain ⟨⟨ec, D1, S1⟩, hc, rfl, rfl, rfl⟩ := hp; dsimp only at hc; obtain ⟨J', D', hce, hE⟩ := laid_changed hL0 (by omega) L; rw [hce] at hc; simp only [Prod.mk.injEq] at hc; obtain ⟨hc1, hc2⟩ := hc; subst hc2; clear hce; (try (dsimp only [Nat.reduceAdd, List.cons_append, List.nil_append]))) | (guard_target =~ CallOb _ 28 _ _ _ _; refine call_q (sync_c S1 D1 (up_ok hE.up.ok (by decide)) mainN) [(0, some 2)] (by have nw := True.intro; (repeat' (first | exact True.intro | (with_reducible exact rfl) | (with_reducible exact AbsLe.refl) | (guard_target =~ @Eq Nat _ _; first | exact rfl | omega) | (guard_target =~ List.map _ _ = []; exact rfl) | (first | (guard_target =~ @Eq (List Value) _ _; exact rfl) | exact covL_of rfl (flat_bind (f := chv) (fun _ => rfl) _) | exact covL_of rfl (flat_bind (f := pgv) (fun _ => rfl) _) | exact covL_of rfl (flat_map (fun _ => rfl) _) | first | exact covL_still rfl hvs | exact covL_still rfl (still_map (fun _ => rfl) _) | exact covL_still rfl (still_map ro_still _) | (apply covL_set <;> (try clear nw) <;> have nw := True.intro) | exact congrArg (Value.int _) (by (try dsimp only); omega)) | (exact congrArg (Value.int _) (by omega)) | (exact covL_flat (flat_map (fun _ => rfl) _)) | (exact covL_flat flat_nil) | (refine covP_all ?_; (try clear nw); have nw := True.intro) | (refine covL_each ?_; (try clear nw); have nw := True.intro) | (refine ⟨?_, ?_⟩ <;> (try clear nw) <;> have nw := True.intro) | (guard_hyp nw : True; ((conv => whnf) <;> clear nw)))); (first | done | fail)) (by rfl) (by rfl) (by rfl) (fun v h1 n1 hp => ?_); obtain ⟨es, D2, S2, hs, rfl, rfl, rfl⟩ := hp; obtain ⟨k2, x, j, hse, hU2⟩ := end_sync hE; rw [hse] at hs; simp only [Prod.mk.injEq] at hs; obtain ⟨hs1, hs2⟩ := hs; clear hse; rw [← hs2] at hU2; have hk2 := hU2.ok; have hj2 : sizeD D2 jnN = sizO j := (by rw [hs2, size2_jn]); have hb2 : bytesD D2 mainN = strOf (x.now.flatMap cellB) := (by rw [hs2, bytes2s]); have hdr := end_drop (by rw [← hs2]; exact hU2); rw [← hs2] at hdr; (try (dsimp only [Nat.reduceAdd, List.cons_append, List.nil_append]))) | (guard_target =~ CallOb _ 18 _ _ _ _; first | (guard_hyp hF : Fin1 x D5 _; refine call_q (bytes_k S5 D5 (up_ok hF.ok (by decide)) mainN) [(0, some 2)] (by have nw := True.intro; (repeat' (first | exact True.intro | (with_reducible exact rfl) | (with_reducible exact AbsLe.refl) | (guard_target =~ @Eq Nat _ _; first | exact rfl | omega) | (guard_target =~ List.map _ _ = []; exact rfl) | (first | (guard_target =~ @Eq (List Value) _ _; exact rfl) | exact covL_of rfl (flat_bind (f := chv) (fun _ => rfl) _) | exact covL_of rfl (flat_bind (f := pgv) (fun _ => rfl) _) | exact covL_of rfl (flat_map (fun _ => rfl) _) | first | exact covL_still rfl hvs | exact covL_still rfl (still_map (fun _ => rfl) _) | exact covL_still rfl (still_map ro_still _) | (apply covL_set <;> (try clear nw) <;> have nw := True.intro) | exact congrArg (Value.int _) (by (try dsimp only); omega)) | (exact congrArg (Value.int _) (by omega)) | (exact covL_flat (flat_map (fun _ => rfl) _)) | (exact covL_flat flat_nil) | (refine covP_all ?_; (try clear nw); have nw := True.intro) | (refine covL_each ?_; (try clear nw); have nw := True.intro) | (refine ⟨?_, ?_⟩ <;> (try clear nw) <;> have nw := True.intro) | (guard_hyp nw : True; ((conv => whnf) <;> clear nw)))); (first | done | fail)) (by rfl) (by rfl) (by rfl) (fun v h1 n1 hp => ?_); obtain ⟨nb, S5, hnb, rfl, rfl, rfl⟩ := hp; rw [hF.by'] at hnb; have hnn : nb = now := hnb.trans hnw.symm; (try (dsimp only [Nat.reduceAdd, List.cons_append, List.nil_append]))) | (refine call_q (bytes_k S2 D2 (up_ok hk2 (by decide)) mainN) [(0, some 2)] (by have nw := True.intro; (repeat' (first | exact True.intro | (with_reducible exact rfl) | (with_reducible exact AbsLe.refl) | (guard_target =~ @Eq Nat _ _; first | exact rfl | omega) | (guard_target =~ List.map _ _ = []; exact rfl) | (first | (guard_target =~ @Eq (List Value) _ _; exact rfl) | exact covL_of rfl (flat_bind (f := chv) (fun _ => rfl) _) | exact covL_of rfl (flat_bind (f := pgv) (fun _ => rfl) _) | exact covL_of rfl (flat_map (fun _ => rfl) _) | first | exact covL_still rfl hvs | exact covL_still rfl (still_map (fun _ => rfl) _) | exact covL_still rfl (still_map ro_still _) | (apply covL_set <;> (try clear nw) <;> have nw := True.intro) | exact congrArg (Value.int _) (by (try dsimp only); omega)) | (exact congrArg (Value.int _) (by omega)) | (exact covL_flat (flat_map (fun _ => rfl) _)) | (exact covL_flat flat_nil) | (refine covP_all ?_; (try clear nw); have nw := True.intro) | (refine covL_each ?_; (try clear nw); have nw := True.intro) | (refine ⟨?_, ?_⟩ <;> (try clear nw) <;> have nw := True.intro) | (guard_hyp nw : True; ((conv => whnf) <;> clear nw)))); (first | done | fail)) (by rfl) (by rfl) (by rfl) (fun v h1 n1 hp => ?_); obtain ⟨now, S2, hnw, rfl, rfl, rfl⟩ := hp; rw [hb2] at hnw; (try (dsimp only [Nat.reduceAdd, List.cons_append, List.nil_append])))) | (guard_target =~ CallOb _ 20 _ _ _ _; refine call_q (size_k S2 D2 (up_ok hk2 (by decide)) jnN) [(0, some 2)] (by have nw := True.intro; (repeat' (first | exact True.intro | (with_reducible exact rfl) | (with_reducible exact AbsLe.refl) | (guard_target =~ @Eq Nat _ _; first | exact rfl | omega) | (guard_target =~ List.map _ _ = []; exact rfl) | (first | (guard_target =~ @Eq (List Value) _ _; exact rfl) | exact covL_of rfl (flat_bind (f := chv) (fun _ => rfl) _) | exact covL_of rfl (flat_bind (f := pgv) (fun _ => rfl) _) | exact covL_of rfl (flat_map (fun _ => rfl) _) | first | exact covL_still rfl hvs | exact covL_still rfl (still_map (fun _ => rfl) _) | exact covL_still rfl (still_map ro_still _) | (apply covL_set <;> (try clear nw) <;> have nw := True.intro) | exact congrArg (Value.int _) (by (try dsimp only); omega)) | (exact congrArg (Value.int _) (by omega)) | (exact covL_flat (flat_map (fun _ => rfl) _)) | (exact covL_flat flat_nil) | (refine covP_all ?_; (try clear nw); have nw := True.intro) | (refine covL_each ?_; (try clear nw); have nw := True.intro) | (refine ⟨?_, ?_⟩ <;> (try clear nw) <;> have nw := True.intro) | (guard_hyp nw : True; ((conv => whnf) <;> clear nw)))); (first | done | fail)) (by rfl) (by rfl) (by rfl) (fun v h1 n1 hp => ?_); obtain ⟨sz, S2, hsz, rfl, rfl, rfl⟩ := hp; rw [hj2] at hsz; (try (dsimp only [Nat.reduceAdd, List.cons_append, List.nil_append]))) | (guard_target =~ CallOb _ 29 _ _ _ _; refine call_q (drop_c S2 D2 (up_ok hk2 (by decide)) jnN) [(0, some 2)] (by have nw := True.intro; (repeat' (first | exact True.intro | (with_reducible exact rfl) | (with_reducible exact AbsLe.refl) | (guard_target =~ @Eq Nat _ _; first | exact rfl | omega) | (guard_target =~ List.map _ _ = []; exact rfl) | (first | (guard_target =~ @Eq (List Value) _ _; exact rfl) | exact covL_of rfl (flat_bind (f := chv) (fun _ => rfl) _) | exact covL_of rfl (flat_bind (f := pgv) (fun _ => rfl) _) | exact covL_of rfl (flat_map (fun _ => rfl) _) | first | exact covL_still rfl hvs | exact covL_still rfl (still_map (fun _ => rfl) _) | exact covL_still rfl (still_map ro_still _) | (apply covL_set <;> (try clear nw) <;> have nw := True.intro) | exact congrArg (Value.int _) (by (try dsimp only); omega)) | (exact congrArg (Value.int _) (by omega)) | (exact covL_flat (flat_map (fun _ => rfl) _)) | (exact covL_flat flat_nil) | (refine covP_all ?_; (try clear nw); have nw := True.intro) | (refine covL_each ?_; (try clear nw); have nw := True.intro) | (refine ⟨?_, ?_⟩ <;> (try clear nw) <;> have nw := True.intro) | (guard_hyp nw : True; ((conv => whnf) <;> clear nw)))); (first | done | fail)) (by rfl) (by rfl) (by rfl) (fun v h1 n1 hp => ?_); obtain ⟨ed, D3, S3, hd, rfl, rfl, rfl⟩ := hp; obtain ⟨k3, hd3, hU3⟩ := hdr.1 (by omega); rw [hd3] at hd; simp only [Prod.mk.injEq] at hd; obtain ⟨hd1, hd2⟩ := hd; rw [← hd2] at hU3; have hk3 := hU3.ok; clear hd3; (try (dsimp only [Nat.reduceAdd, List.cons_append, List.nil_append]))) | (guard_target =~ CallOb _ 25 _ _ _ _; first | (guard_hyp hd1 : ed = 0; refine call_q (offd_c S3 D3 (up_ok hk3 (by decide))) [(0, some 2)] (by have nw := True.intro; (repeat' (first | exact True.intro | (with_reducible exact rfl) | (with_reducible exact AbsLe.refl) | (guard_target =~ @Eq Nat _ _; first | exact rfl | omega) | (guard_target =~ List.map _ _ = []; exact rfl) | (first | (guard_target =~ @Eq (List Value) _ _; exact rfl) | exact covL_of rfl (flat_bind (f := chv) (fun _ => rfl) _) | exact covL_of rfl (flat_bind (f := pgv) (fun _ => rfl) _) | exact covL_of rfl (flat_map (fun _ => rfl) _) | first | exact covL_still rfl hvs | exact covL_still rfl (still_map (fun _ => rfl) _) | exact covL_still rfl (still_map ro_still _) | (apply covL_set <;> (try clear nw) <;> have nw := True.intro) | exact congrArg (Value.int _) (by (try dsimp only); omega)) | (exact congrArg (Value.int _) (by omega)) | (exact covL_flat (flat_map (fun _ => rfl) _)) | (exact covL_flat flat_nil) | (refine covP_all ?_; (try clear nw); have nw := True.intro) | (refine covL_each ?_; (try clear nw); have nw := True.intro) | (refine ⟨?_, ?_⟩ <;> (try clear nw) <;> have nw := True.intro) | (guard_hyp nw : True; ((conv => whnf) <;> clear nw)))); (first | done | fail)) (by rfl) (by rfl) (by rfl) (fun v h1 n1 hp => ?_); obtain ⟨_, D4, S4, rfl, rfl, rfl, rfl⟩ := hp; (try (dsimp only [Nat.reduceAdd, List.cons_append, List.nil_append]))) | (have hjn := hdr.2 (by omega); subst hjn; refine call_q (offd_c S2 D2 (up_ok hk2 (by decide))) [(0, some 2)] (by have nw := True.intro; (repeat' (first | exact True.intro | (with_reducible exact rfl) | (with_reducible exact AbsLe.refl) | (guard_target =~ @Eq Nat _ _; first | exact rfl | omega) | (guard_target =~ List.map _ _ = []; exact rfl) | (first | (guard_target =~ @Eq (List Value) _ _; exact rfl) | exact covL_of rfl (flat_bind (f := chv) (fun _ => rfl) _) | exact covL_of rfl (flat_bind (f := pgv) (fun _ => rfl) _) | exact covL_of rfl (flat_map (fun _ => rfl) _) | first | exact covL_still rfl hvs | exact covL_still rfl (still_map (fun _ => rfl) _) | exact covL_still rfl (still_map ro_still _) | (apply covL_set <;> (try clear nw) <;> have nw := True.intro) | exact congrArg (Value.int _) (by (try dsimp only); omega)) | (exact congrArg (Value.int _) (by omega)) | (exact covL_flat (flat_map (fun _ => rfl) _)) | (exact covL_flat flat_nil) | (refine covP_all ?_; (try clear nw); have nw := True.intro) | (refine covL_each ?_; (try clear nw); have nw := True.intro) | (refine ⟨?_, ?_⟩ <;> (try clear nw) <;> have nw := True.intro) | (guard_hyp nw : True; ((conv => whnf) <;> clear nw)))); (first | done | fail)) (by rfl) (by rfl) (by rfl) (fun v h1 n1 hp => ?_); obtain ⟨_, D4, S4, rfl, rfl, rfl, rfl⟩ := hp; (try (dsimp only [Nat.reduceAdd, List.cons_append, List.nil_append])))) | (guard_target =~ CallOb _ 26 _ _ _ _; first | (guard_hyp hd1 : ed = 0; refine call_q (on_c S4 (offD D3) (up_ok (off_okN hk3) (by decide)) F capf (by omega)) [(0, some 2), (1, some 1)] (by have nw := True.intro; (repeat' (first | exact True.intro | (with_reducible exact rfl) | (with_reducible exact AbsLe.refl) | (guard_target =~ @Eq Nat _ _; first | exact rfl | omega) | (guard_target =~ List.map _ _ = []; exact rfl) | (first | (guard_target =~ @Eq (List Value) _ _; exact rfl) | exact covL_of rfl (flat_bind (f := chv) (fun _ => rfl) _) | exact covL_of rfl (flat_bind (f := pgv) (fun _ => rfl) _) | exact covL_of rfl (flat_map (fun _ => rfl) _) | first | exact covL_still rfl hvs | exact covL_still rfl (still_map (fun _ => rfl) _) | exact covL_still rfl (still_map ro_still _) | (apply covL_set <;> (try clear nw) <;> have nw := True.intro) | exact congrArg (Value.int _) (by (try dsimp only); omega)) | (exact congrArg (Value.int _) (by omega)) | (exact covL_flat (flat_map (fun _ => rfl) _)) | (exact covL_flat flat_nil) | (refine covP_all ?_; (try clear nw); have nw := True.intro) | (refine covL_each ?_; (try clear nw); have nw := True.intro) | (refine ⟨?_, ?_⟩ <;> (try clear nw) <;> have nw := True.intro) | (guard_hyp nw : True; ((conv => whnf) <;> clear nw)))); (first | done | fail)) (by rfl) (by rfl) (by rfl) (fun v h1 n1 hp => ?_); obtain ⟨_, D5, S5, h5, rfl, rfl, rfl⟩ := hp; have hF := end_on (by rw [← hd2]; exact hU3) F; rw [← hd2, ← h5] at hF; clear h5; (try (dsimp only [Nat.reduceAdd, List.cons_append, List.nil_append]))) | (refine call_q (on_c S4 (offD D2) (up_ok (off_okN hk2) (by decide)) F capf (by omega)) [(0, some 2), (1, some 1)] (by have nw := True.intro; (repeat' (first | exact True.intro | (with_reducible exact rfl) | (with_reducible exact AbsLe.refl) | (guard_target =~ @Eq Nat _ _; first | exact rfl | omega) | (guard_target =~ List.map _ _ = []; exact rfl) | (first | (guard_target =~ @Eq (List Value) _ _; exact rfl) | exact covL_of rfl (flat_bind (f := chv) (fun _ => rfl) _) | exact covL_of rfl (flat_bind (f := pgv) (fun _ => rfl) _) | exact covL_of rfl (flat_map (fun _ => rfl) _) | first | exact covL_still rfl hvs | exact covL_still rfl (still_map (fun _ => rfl) _) | exact covL_still rfl (still_map ro_still _) | (apply covL_set <;> (try clear nw) <;> have nw := True.intro) | exact congrArg (Value.int _) (by (try dsimp only); omega)) | (exact congrArg (Value.int _) (by omega)) | (exact covL_flat (flat_map (fun _ => rfl) _)) | (exact covL_flat flat_nil) | (refine covP_all ?_; (try clear nw); have nw := True.intro) | (refine covL_each ?_; (try clear nw); have nw := True.intro) | (refine ⟨?_, ?_⟩ <;> (try clear nw) <;> have nw := True.intro) | (guard_hyp nw : True; ((conv => whnf) <;> clear nw)))); (first | done | fail)) (by rfl) (by rfl) (by rfl) (fun v h1 n1 hp => ?_); obtain ⟨_, D5, S5, h5, rfl, rfl, rfl⟩ := hp; have hF := end_on (by rw [← hs2]; exact hU2) F; rw [← hs2, ← h5] at hF; clear h5; (try (dsimp only [Nat.reduceAdd, List.cons_append, List.nil_append])))) | (guard_target =~ CallOb _ 16 _ _ _ _; refine call_q (back_no S5 D5 hF.ok (by decide) hF.jn) [(0, some 2)] (by have nw := True.intro; (repeat' (first | exact True.intro | (with_reducible exact rfl) | (with_reducible exact AbsLe.refl) | (guard_target =~ @Eq Nat _ _; first | exact rfl | omega) | (guard_target =~ List.map _ _ = []; exact rfl) | (first | (guard_target =~ @Eq (List Value) _ _; exact rfl) | exact covL_of rfl (flat_bind (f := chv) (fun _ => rfl) _) | exact covL_of rfl (flat_bind (f := pgv) (fun _ => rfl) _) | exact covL_of rfl (flat_map (fun _ => rfl) _) | first | exact covL_still rfl hvs | exact covL_still rfl (still_map (fun _ => rfl) _) | exact covL_still rfl (still_map ro_still _) | (apply covL_set <;> (try clear nw) <;> have nw := True.intro) | exact congrArg (Value.int _) (by (try dsimp only); omega)) | (exact congrArg (Value.int _) (by omega)) | (exact covL_flat (flat_map (fun _ => rfl) _)) | (exact covL_flat flat_nil) | (refine covP_all ?_; (try clear nw); have nw := True.intro) | (refine covL_each ?_; (try clear nw); have nw := True.intro) | (refine ⟨?_, ?_⟩ <;> (try clear nw) <;> have nw := True.intro) | (guard_hyp nw : True; ((conv => whnf) <;> clear nw)))); (first | done | fail)) (by rfl) (by rfl) (by rfl) (fun v h1 n1 hp => ?_); obtain ⟨⟨ek, S5⟩, hek, rfl, rfl, rfl⟩ := hp; dsimp only at hek; (try (dsimp only [Nat.reduceAdd, List.cons_append, List.nil_append]))) | (with_reducible refine chk_in (Nat.ble_eq_true_of_le (by omega)) ?_) | (with_reducible refine ifB_in ?_ ?_ <;> intro hb <;> (try simp only [decide_eq_true_eq, decide_eq_false_iff_not, Int.not_lt, Int.not_le, ne_eq, Decidable.not_not, Bool.not_eq_true', Bool.not_eq_false', gt_iff_lt, ge_iff_le] at hb) <;> (try (exfalso; omega))) | (with_reducible refine ⟨_, w64b _, ?_⟩) | (with_reducible refine ⟨_, w64 (by omega) (by omega), ?_⟩) | (with_reducible refine ⟨_, wu64 (by omega) (by omega), ?_⟩) | (with_reducible refine ⟨_, wu8 (by omega) (by omega), ?_⟩) | (with_reducible refine ⟨_, w64 (by (simp only [size_sfrom, ByteArray.size_extract, ByteArray.size_append, strOf_size, fixedL_length, lit_size, List.size_toArray, List.length_cons, List.length_nil, List.length_append, List.length_replicate]; omega)) (by (simp only [size_sfrom, ByteArray.size_extract, ByteArray.size_append, strOf_size, fixedL_length, lit_size, List.size_toArray, List.length_cons, List.length_nil, List.length_append, List.length_replicate]; omega)), ?_⟩) | (with_reducible refine ⟨_, rfl, ?_⟩) | (with_reducible refine ⟨rfl, ?_⟩) | (intro cap) | (with_reducible refine ⟨trivial, ?_⟩) | (guard_target =~ (planChk _ _ = true) ∧ _; refine ⟨by kernel_rfl, ?_⟩) | (guard_target =~ (_ ∧ _) ∧ _; refine ⟨by ((repeat (first | exact trivial | refine ⟨rfl, ?_⟩)); (first | done | fail)), ?_⟩) | (refine ⟨by omega, ?_⟩) | (refine ⟨by (simp only [size_sfrom, ByteArray.size_extract, ByteArray.size_append, strOf_size, fixedL_length, lit_size, List.size_toArray, List.length_cons, List.length_nil, List.length_append, List.length_replicate]; omega), ?_⟩) | (refine ⟨0, rfl, ?_⟩) | (refine ⟨1, rfl, ?_⟩) | (refine ⟨2, rfl, ?_⟩) | (refine ⟨3, rfl, ?_⟩) | (refine ⟨4, rfl, ?_⟩) | (refine ⟨5, rfl, ?_⟩) | (refine cell_at1 (by assumption) ?_) | (refine cell_in1 (by omega) (fun x hx => ?_)) | fail)) <;> (try (conv => whnf))
  all_goals first
    | ((refine Ends.go (strEq nb now) ?_ [] (Fit.q (by have nw := True.intro; (repeat' (first | exact True.intro | (with_reducible exact rfl) | (with_reducible exact AbsLe.refl) | (guard_target =~ @Eq Nat _ _; first | exact rfl | omega) | (guard_target =~ List.map _ _ = []; exact rfl) | (first | (guard_target =~ @Eq (List Value) _ _; exact rfl) | exact covL_of rfl (flat_bind (f := chv) (fun _ => rfl) _) | exact covL_of rfl (flat_bind (f := pgv) (fun _ => rfl) _) | exact covL_of rfl (flat_map (fun _ => rfl) _) | first | exact covL_still rfl hvs | exact covL_still rfl (still_map (fun _ => rfl) _) | exact covL_still rfl (still_map ro_still _) | (apply covL_set <;> (try clear nw) <;> have nw := True.intro) | exact congrArg (Value.int _) (by (try dsimp only); omega)) | (exact congrArg (Value.int _) (by omega)) | (exact covL_flat (flat_map (fun _ => rfl) _)) | (exact covL_flat flat_nil) | (refine covP_all ?_; (try clear nw); have nw := True.intro) | (refine covL_each ?_; (try clear nw); have nw := True.intro) | (refine ⟨?_, ?_⟩ <;> (try clear nw) <;> have nw := True.intro) | (guard_hyp nw : True; ((conv => whnf) <;> clear nw)))); (first | done | fail)) (by rfl) (by rfl))); rw [hnn]; exact strEq_self _)
    | (exfalso; omega)
    | trace_state
namespace journalEnds
theorem walk (a0 : Int) (v : Value) (cap : Nat) (L : List ChT) (v2 : Value) (capf : Nat) (F : List Int) (w : World) (w0 : (Lit.int .i64 a0).wf = true)
    (S : SlcAt w v L.length cap (L.flatMap (fun y : ChT => [.int .i64 (y.1), .int .u8 (y.2.1), .bool (y.2.2)]))) (hq : L.length ≤ cap) (hb : cap ≤ 140737488351232) (hw : ∀ y ∈ L, (fun y : ChT => (Lit.int .i64 (y.1)).wf = true ∧ (Lit.int .u8 (y.2.1)).wf = true) y)
    (S2 : SlcAt w v2 F.length capf (F.flatMap (fun y : Int => [.int .i64 y]))) (q2 : F.length ≤ capf) (b2 : capf ≤ 140737488351232) (w2 : ∀ y ∈ F, (fun y : Int => (Lit.int .i64 y).wf = true) y) :
    Calls Tryz.prog 5 #[.int .i64 a0, v, v2] w fun e w' => e = .returned (.bool true) ∧ Below w.heap.size w w' := by
  rw [flatMap_one] at S2
  obtain ⟨m, _, H, hm, hv⟩ := (HRel.start w).see (fun i it e => by cases e) S (flat_bind (f := chv) (fun _ => rfl) L)
  obtain ⟨m2, l2, H2, _, hv2⟩ := H.see hm S2 (flat_map (fun _ => rfl) F)
  exact law_of (cs := [.int .i64 a0, v, v2]) (journalEnds_c a0 L cap F capf (bounds_i64 w0) (fun y hy => bounds_u8 (hw y hy).2) (by omega) (by omega)) (H2.sub_of (h' := [(0, .lview (L.flatMap chv)), (1, .lview (F.map iv))]) fun i it e => by
    have := lkH_mem e
    simp only [List.mem_cons, Prod.mk.injEq, List.not_mem_nil, or_false] at this
    rcases this with ⟨rfl, rfl⟩ | ⟨rfl, rfl⟩ <;> rfl) ⟨VR.same rfl, (VR.of0 rfl).2 (hv.mono l2), (VR.of0 rfl).2 hv2, trivial⟩ (fun v hh m ⟨_, hz, h, _⟩ => by rw [h, hz])
end journalEnds
end Go.Proofs.YtncnfmpclgkogaaGreat
