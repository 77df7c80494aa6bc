/- JournalReads: whatever bytes stand in the file, Find tells of them what the document says, and Back writes it to the database: the document's journal to the same functions; the walk. -/
import Derived.Test.YtelolcagncgfpaaGreatJrnRestAll
import Derived.Test.YtelolcagncgfpaaGreatSealRef
import Derived.Test.YtelolcagncgfpaaGreatRefLoad
import Derived.Test.YtelolcagncgfpaaGreatRefPower
import Derived.Test.YtelolcagncgfpaaGreatDiskLoad
namespace Go.Proofs.YtelolcagncgfpaaGreat
open Go.RowKit
set_option linter.unusedSimpArgs false
set_option linter.unusedVariables false
theorem jread_size (D : DM) (s : ByteArray) (i : Int) (t : ByteArray) : sizeD (readD D s i).2 t = sizeD D t := rfl
section
variable (S : Nat → Prop) (D : DM) (hD : D.Ok)
include hD
theorem rsize_q (s : ByteArray) : CallOb Tryz.prog 19 [ptr 0, .string s] [(0, refI S D)] 1 (fun v h m => ∃ (a : Int) (S' : Nat → Prop), a = sizeD D s ∧ v = iv a ∧ h = [(0, refI S' D)] ∧ m = 200) :=
 (rsize_k S D hD s).mono fun v h m ⟨a, D', S', hr, h1, h2, h3⟩ => by
  obtain ⟨rfl, rfl⟩ := hr
  exact ⟨_, S', rfl, h1, h2, h3⟩
theorem rbytes_q (s : ByteArray) : CallOb Tryz.prog 17 [ptr 0, .string s] [(0, refI S D)] 1 (fun v h m => ∃ (a : ByteArray) (S' : Nat → Prop), a = bytesD D s ∧ v = .string a ∧ h = [(0, refI S' D)] ∧ m = 200) :=
 (rbytes_k S D hD s).mono fun v h m ⟨a, D', S', hr, h1, h2, h3⟩ => by
  obtain ⟨rfl, rfl⟩ := hr
  exact ⟨_, S', rfl, h1, h2, h3⟩
end
theorem foot_iff {d : ByteArray} (hd : d.size = 232) {m f : Int} (hm : m = (numOf ((bytesOf d).take 4) : Nat)) (hf : 0 ≤ f ∧ f < 4294967296) :
 d = footS m f ↔ (strOf (padL ((bytesOf d).take 8)) = d ∧ ((numOf (((bytesOf d).drop 4).take 4) : Nat) : Int) = f) := by
 obtain ⟨L, rfl⟩ : ∃ L, d = strOf L := ⟨bytesOf d, (strOf_bytesOf d).symm⟩
 rw [strOf_size] at hd
 rw [bytesOf_strOf] at hm ⊢
 unfold footS
 rw [strOf_inj, strOf_inj, hm, Int.toNat_natCast]
 have l4 : (L.take 4).length = 4 := by rw [List.length_take]; omega
 have l44 : ((L.drop 4).take 4).length = 4 := by rw [List.length_take, List.length_drop]; omega
 have l8 : (L.take 8).length = 8 := by rw [List.length_take]; omega
 have hp : padL (L.take 8) = L.take 8 ++ List.replicate 224 0 := by unfold padL; rw [List.take_of_length_le (by omega), l8]
 have h84 : L.take 8 = L.take 4 ++ (L.drop 4).take 4 := by rw [← List.take_add]
 rw [hp, fixedL_of_numOf l4, h84]
 constructor
 · intro e
   have e4 : ((L.drop 4).take 4) = fixedL f.toNat 4 := by
    have h1 := congrArg (fun l => (l.drop 4).take 4) e
    (try dsimp only at h1)
    rw [List.append_assoc, List.drop_left' l4, List.take_left' (fixedL_length _ _)] at h1
    exact h1
   refine ⟨?_, ?_⟩
   · rw [e4]; exact e.symm
   · rw [e4, fixed4 (by omega)]
     omega
 · rintro ⟨e1, e2⟩
   have e3 : f.toNat = numOf ((L.drop 4).take 4) := by omega
   rw [e3, fixedL_of_numOf l44]
   exact e1.symm
theorem bytes_mid (d : ByteArray) : bytesOf (d.extract 4 8) = ((bytesOf d).drop 4).take 4 := by
 rw [bytesOf_extract, List.drop_take]
structure RFI (F : FM) : Prop where
 none : F.feet = 0 → F.sure = [] ∧ F.pages = 0
 below : 0 < F.feet → ∀ p ∈ F.sure, p.1 < F.pages
theorem RFI.start : RFI fm0 := ⟨fun _ => ⟨rfl, rfl⟩, fun h => absurd h (by decide)⟩
theorem RFI.recd {F : FM} (h : RFI F) (salt n : Int) (d : ByteArray) : RFI { F with salt := salt, loose := F.loose ++ [(n, d)] } := ⟨h.none, h.below⟩
def BadR (F : FM) (m n b : Int) (d : ByteArray) : Prop := ¬ strOf (padL ((bytesOf d).take 8)) = d ∨ ¬ n = F.loose.length ∨ ¬ b = F.feet ∨ 4096 < m ∨ (0 < F.feet ∧ ¬ m = F.pages) ∨ ∃ p ∈ F.sure ++ F.loose, m ≤ p.1
theorem bad_iff {F : FM} (hF : RFI F) {c : Nat} (hO : FOk F c) (hc : c ≤ 100000) {m n b : Int} {d : ByteArray} (hd : d.size = 232) (hm : m = (numOf ((bytesOf d).take 4) : Nat)) (hb : b = (numOf (((bytesOf d).drop 4).take 4) : Nat)) : BadF F m n d ↔ BadR F m n b d := by
 have hi := foot_iff hd hm (f := F.feet) (by have := hO.feet; omega)
 unfold BadF BadR
 rw [← hb] at hi
 constructor
 · rintro (h | h | h | h | ⟨p, hp, h⟩)
   · exact .inr (.inr (.inr (.inl h)))
   · exact .inr (.inr (.inr (.inr (.inl h))))
   · by_cases h1 : strOf (padL ((bytesOf d).take 8)) = d
     · exact .inr (.inr (.inl fun h2 => h (hi.2 ⟨h1, h2⟩)))
     · exact .inl h1
   · exact .inr (.inl h)
   · exact .inr (.inr (.inr (.inr (.inr ⟨p, List.mem_append_right _ hp, h⟩))))
 · rintro (h | h | h | h | h | ⟨p, hp, h⟩)
   · exact .inr (.inr (.inl fun e => h (hi.1 e).1))
   · exact .inr (.inr (.inr (.inl h)))
   · exact .inr (.inr (.inl fun e => h (hi.1 e).2))
   · exact .inl h
   · exact .inr (.inl h)
   · rcases List.mem_append.1 hp with hp | hp
     · by_cases hz : 0 < F.feet
       · have := hF.below hz p hp
         exact .inr (.inl ⟨hz, by omega⟩)
       · have : F.feet = 0 := by have := hO.feet; omega
         rw [(hF.none this).1] at hp
         cases hp
     · exact .inr (.inr (.inr (.inr ⟨p, hp, h⟩)))
theorem RFI.foot {F : FM} (h : RFI F) {c : Nat} (hO : FOk F c) {m n : Int} {d : ByteArray} (salt : Int) (hb : ¬ BadF F m n d) : RFI ⟨m, F.feet + 1, salt, F.sure ++ F.loose, []⟩ := by
 refine ⟨fun e => absurd e (by have := hO.feet; dsimp only; omega), fun _ p hp => ?_⟩
 unfold BadF at hb
 dsimp only at hp ⊢
 rcases List.mem_append.1 hp with hp | hp
 · by_cases hz : 0 < F.feet
   · have h1 := h.below hz p hp
     have h2 : m = F.pages := Classical.byContradiction fun hne => hb (.inr (.inl ⟨hz, hne⟩))
     omega
   · have : F.feet = 0 := by have := hO.feet; omega
     rw [(h.none this).1] at hp
     cases hp
 · exact Classical.byContradiction fun hne => hb (.inr (.inr (.inr (.inr ⟨p, hp, by omega⟩))))
theorem cell_pg {l : List Pg} {i : Nat} {p : Pg} (h : l[i]? = some p) {o j : Nat} {v : Value} (hj : j < 2) (ho : o = i * 2 + j) (hv : (pgv p)[j]? = some v) : (l.flatMap pgv)[o]? = some v := by
 obtain ⟨e, _⟩ := subL_ok (sub_flat (f := pgv) (n := 2) (fun _ => rfl) h rfl)
 have e2 := congrArg (fun l : List Value => l[j]?) e
 (try dsimp only at e2)
 rw [List.getElem?_take, if_pos hj, List.getElem?_drop] at e2
 rw [ho, e2, hv]
theorem read_torn {D D' : DM} {n s : ByteArray} {i : Int} (h : ((s, (13 : Int)), D') = readD D n i) : s = ⟨#[]⟩ := by
 unfold readD at h
 dsimp only at h
 split at h
 · exact (Prod.mk.inj (congrArg Prod.fst h)).1
 · have e : (s, (13 : Int)) = readF ((findF D.fs n).getD fl0) i := congrArg Prod.fst h
   unfold readF at e
   split at e
   · exact absurd (Prod.mk.inj e).2 (by decide)
   · unfold readC at e
     split at e
     · exact absurd (Prod.mk.inj e).2 (by decide)
     · exact (Prod.mk.inj e).1
     · exact absurd (Prod.mk.inj e).2 (by decide)
theorem open_empty : ¬ openE ⟨#[]⟩ = 0 := by
 unfold openE
 rw [if_neg (by decide)]
 split <;> decide
structure RKF where
 i : Nat
 F : FM
 D : DM
 S : Nat → Prop
 c1 : Nat
 c2 : Nat
structure RKR (D0 : DM) (N : Int) (zz : Nat) (k : RKF) : Prop where
 le : k.i ≤ zz
 run : findL (zz - k.i) k.i k.F k.D = findJ D0
 ok : k.D.OkN (N + k.i)
 F : FOk k.F k.i
 I : RFI k.F
 c1 : (k.F.sure ++ k.F.loose).length ≤ k.c1
 c2 : k.F.sure.length ≤ k.c2
 size : sizeD k.D jnN = sizeD D0 jnN
structure RKJ (D0 : DM) (k : RKF) : Prop where
 run : ((0, k.F), k.D) = findJ D0
 F : FOk k.F k.i
 I : RFI k.F
 c2 : k.F.sure.length ≤ k.c2
theorem RKR.run1 {D0 : DM} {N : Int} {zz : Nat} {k : RKF} (h : RKR D0 N zz k) (hi : k.i < zz) : ∃ m, zz - k.i = m + 1 ∧ zz - (k.i + 1) = m ∧ findL (m + 1) k.i k.F k.D = findJ D0 := by
 refine ⟨zz - (k.i + 1), by omega, rfl, ?_⟩
 rw [show zz - (k.i + 1) + 1 = zz - k.i by omega]
 exact h.run
attribute [local irreducible] numOf fixedL bytesOf strOf strEq strLt sfrom padL closeS closeE layD footS writeD sizeD syncD cutD dropD readD addF stepF findL findJ foundJ openE openV
theorem rec_flat {a b : List Pg} {x : Pg} {l : List Value} (h : l = pgv x) : (a ++ b).flatMap pgv ++ l = (a ++ (b ++ [x])).flatMap pgv := by
 rw [h, ← List.append_assoc, List.flatMap_append (ys := [x])]; simp
theorem all_flat (a : List Pg) : a.flatMap pgv = (a ++ []).flatMap pgv := by rw [List.append_nil]
theorem cvJrnReadsW1 {p : Prop} (h : p := by have nw := True.intro; (repeat' (first | exact True.intro | (with_reducible exact rfl) | (with_reducible exact AbsLe.refl) | (guard_target =~ @Eq Nat _ _; first | exact rfl | omega) | (guard_target =~ List.map _ _ = []; exact rfl) | (first | (guard_target =~ @Eq (List Value) _ _; exact rfl) | (guard_target =~ @Eq Value _ _; exact rfl) | (guard_target =~ @Eq Value _ _; refine congrArg (Value.int _) ?_; (try dsimp only); (simp only [List.length_append, List.length_singleton, List.length_nil]); omega) | (guard_target =~ @Eq Nat _ _; (try dsimp only); first | omega | ((simp only [List.length_append, List.length_singleton, List.length_nil, List.length_cons]) <;> omega)) | exact covL_of (app_flat rfl) (flat_bind (f := pgv) (fun _ => rfl) _) | exact covL_of (rec_flat rfl) (flat_bind (f := pgv) (fun _ => rfl) _) | exact covL_of (all_flat _) (flat_bind (f := pgv) (fun _ => rfl) _) | exact covL_of rfl (flat_bind (f := pgv) (fun _ => rfl) _) | exact covL_of rfl (flat_map (fun _ => rfl) _) | first | exact covL_still rfl hvs | exact covL_still rfl (still_map (fun _ => rfl) _) | exact covL_still rfl (still_map ro_still _) | (apply covL_set <;> (try clear nw) <;> have nw := True.intro) | exact congrArg (Value.int _) (by (try dsimp only); omega)) | (exact congrArg (Value.int _) (by omega)) | (exact covL_flat (flat_map (fun _ => rfl) _)) | (exact covL_flat flat_nil) | (refine covP_all ?_; (try clear nw); have nw := True.intro) | (refine covL_each ?_; (try clear nw); have nw := True.intro) | (refine ⟨?_, ?_⟩ <;> (try clear nw) <;> have nw := True.intro) | (guard_hyp nw : True; ((conv => whnf) <;> clear nw)))); (first | done | fail)) : p := h
theorem rnJrnReadsW2 {p : Prop} (h : p := by refine ⟨?_, ?_, ?_⟩; (first | apply rR_tuple | apply rR_one rfl | exact rfl); all_goals (repeat' (first | (with_reducible (first | exact relH_nil | apply rn_lst | apply rn_own | apply rn_mp | apply rn_row | apply rn_abs | exact wo_nil)) | apply wo_keep rfl | apply wo_drop rfl | exact relH_nil | exact r1_flat rfl | exact r0_flat rfl | exact rl_nil | exact wo_nil | exact bk_old rfl | exact bk_new rfl | exact bk_nil rfl | apply rl_cons | (first | exact relL_flat (flat_bind (f := pgv) (fun _ => rfl) _) | exact relL_flat (flat_map (fun _ => rfl) _) | first | exact relL_still hvs | exact relL_still (still_map (fun _ => rfl) _) | exact relL_still (still_map ro_still _) | exact relL_flat (flat_map (fun _ => rfl) _) | apply relL_set) | exact relL_flat (flat_map (fun _ => rfl) _) | exact relL_flat flat_nil | apply relL_to | apply rn_lst | apply rn_own | apply rn_mp | apply rn_row | apply relH_view rfl | apply relH_lview rfl | apply relH_fact rfl | exact r1_rig | exact r0_rig | exact r1_rigs | exact r0_rigs | apply wo_keep rfl | apply wo_drop rfl | apply r1_agg | apply rn_ptr | apply rn_slice | apply rn_slice0 | apply rn_iface | apply rn_map | apply rn_ifacem | apply r0_map | apply r0_ifacem | apply r0_ptr | apply r0_slice | apply r0_slice0 | apply r0_iface)); (first | done | fail)) : p := h
theorem rbelow_c (l : List Pg) (cap : Nat) (n : Int) (hl : l.length < 9223372036854775807) : CallOb Tryz.prog 41 [mslice 0 l.length cap, iv n] [(0, .lview (l.flatMap pgv))] 1 (fun v hh m => ∃ z : Bool, (z = true ↔ ¬ ∃ p ∈ l, n ≤ p.1) ∧ v = .bool z ∧ hh = [] ∧ m = 1) := by
 refine call_spec tabOk mixed Tryz.call41 Tryz.func41 rfl [(25, [(0, true), (1, true), (2, true), (4, true), (5, true), (3, false), (6, true), (7, true)])] (fun z : Bool => z = true ↔ ¬ ∃ p ∈ l, n ≤ p.1) (fun z => .bool z) (fun _ => []) (fun _ => 1) ?_ ?_
 · exact (Nat.le_of_ble_eq_true rfl)
 (repeat' ((try (conv => whnf)); first | (guard_target =~ ∃ (_ : Value), ∃ (_ : HP), ∃ (_ : HP), _; refine ⟨_, _, _, rnJrnReadsW2, ?_⟩; (try (dsimp only [Nat.reduceAdd, bC, bL]))) | (guard_target =~ LoopOb _ _ _ _ _ _ _ _; refine loop_rule tabOk mixed [(25, [(0, true), (1, true), (2, true), (4, true), (5, true), (3, false), (6, true), (7, true)])] 1 (fun k => [(0, mslice 0 l.length cap), (1, iv n), (5, iv (k : Nat))]) (fun k => [(0, .lview (l.flatMap pgv))]) (fun k => l.length - k) (fun k => k ≤ l.length ∧ ∀ c ∈ l.take k, ¬ n ≤ c.1) (0) (⟨Nat.zero_le _, fun c hc => by simp at hc⟩) ⟨[], Sub.q cvJrnReadsW1 (by rfl) (by rfl)⟩ (fun k hk => ?_)) | (guard_target =~ ∃ (_ : Nat), _ ∧ _; obtain ⟨c, hc⟩ : ∃ c, l[k]? = some c := ⟨_, List.getElem?_eq_getElem (show k < l.length by omega)⟩; refine ⟨k, by omega, by omega, ?_⟩) | (guard_hyp hc : l[k]? = some c; refine onS_in (cell_pg hc (j := 0) (by decide) omT rfl) ?_) | (with_reducible first | refine chk_in (Nat.ble_eq_true_of_le omT) ?_ | (refine ifB_in ?_ ?_ <;> intro hb <;> (try simp only [bN1, bN2, bN3, bN4, bN5, bN6, bN7, bN8, bN9, bN0] at hb) <;> (try (exfalso; omega))) | refine ⟨_, w64b _, ?_⟩ | refine ⟨_, w64 omT omT, ?_⟩ | refine ⟨_, wu64 omT omT, ?_⟩ | refine ⟨_, wu8 omT omT, ?_⟩ | refine ⟨_, w64 szT szT, ?_⟩ | refine ⟨_, rfl, ?_⟩ | refine ⟨rfl, ?_⟩) | intro cap | (with_reducible refine ⟨trivial, ?_⟩) | (guard_target =~ (planChk _ _ = true) ∧ _; refine ⟨by kernel_rfl, ?_⟩) | (guard_target =~ (_ ∧ _) ∧ _; refine ⟨by ((repeat (first | exact trivial | refine ⟨rfl, ?_⟩)); (first | done | fail)), ?_⟩) | refine ⟨by omega, ?_⟩ | refine ⟨szT, ?_⟩ | refine ⟨0, rfl, ?_⟩ | refine ⟨1, rfl, ?_⟩ | refine ⟨2, rfl, ?_⟩ | refine ⟨3, rfl, ?_⟩ | refine ⟨4, rfl, ?_⟩ | refine ⟨5, rfl, ?_⟩ | (refine cell_at1 (by assumption) ?_) | (refine cell_in1 omT (fun x hx => ?_)) | fail)) <;> (try (conv => whnf))
 all_goals first
  | (guard_hyp hb : n ≤ _; (refine Ends.go (false) ?_ [] (Fit.q cvJrnReadsW1 (by rfl) (by rfl))); exact iff_of_false (by decide) (fun h => h ⟨c, List.mem_of_getElem? hc, hb⟩))
  | ((refine Again.go ((k + 1 : Nat)) ?_ (by (try dsimp only); omega) [] (Sub.q cvJrnReadsW1 (by rfl) (by rfl))); refine ⟨by omega, fun x hx => ?_⟩; rw [List.take_add_one, hc] at hx; rcases List.mem_append.1 hx with h | h; exact hk.2 x h; (have : x = c := by simpa using h); rw [this]; omega)
  | ((refine Ends.go (true) ?_ [] (Fit.q cvJrnReadsW1 (by rfl) (by rfl))); refine iff_of_true rfl (fun ⟨c, hc, h⟩ => hk.2 c ?_ h); rw [List.take_of_length_le (by omega)]; exact hc)
  | trace_state
set_option maxRecDepth 100000 in
set_option maxHeartbeats 8000000 in
theorem rfind_c (S : Nat → Prop) (D : DM) {N : Int} (hD : D.OkN N) (hN : N ≤ 900000) :
 CallOb Tryz.prog 12 [ptr 0] [(0, refI S D)] 1 (fun v h m => ∃ x : (Int × Int × List Pg × Bool) × DM × (Nat → Prop) × Nat, ((x.1, x.2.1) = foundJ D ∧ x.1.2.2.1.length ≤ x.2.2.2) ∧ v = .tuple #[iv x.1.2.1, mslice 60 x.1.2.2.1.length x.2.2.2, .bool x.1.2.2.2, iv x.1.1] ∧ h = [(0, refI x.2.2.1 x.2.1), (60, .lst 51 2 x.2.2.2 (x.1.2.2.1.flatMap pgv))] ∧ m = 1200) := by
 refine call_spec tabOk mixed Tryz.call12 Tryz.func12 rfl [(25, [(0, true), (1, true), (2, true), (4, true), (5, true), (3, false), (6, true), (7, true)])] (fun x : (Int × Int × List Pg × Bool) × DM × (Nat → Prop) × Nat => (x.1, x.2.1) = foundJ D ∧ x.1.2.2.1.length ≤ x.2.2.2) (fun x => .tuple #[iv x.1.2.1, mslice 60 x.1.2.2.1.length x.2.2.2, .bool x.1.2.2.2, iv x.1.1]) (fun x => [(0, refI x.2.2.1 x.2.1), (60, .lst 51 2 x.2.2.2 (x.1.2.2.1.flatMap pgv))]) (fun _ => 1200) ?_ ?_
 · exact (Nat.le_of_ble_eq_true rfl)
 obtain ⟨zz, hz0⟩ : ∃ zz : Nat, zz = (max (sizeD D jnN) 0).toNat := ⟨_, rfl⟩
 have hzz : ∀ sz : Int, sz = sizeD D jnN → ((zz : Nat) : Int) = max sz 0 := fun sz h => by rw [hz0, h]; omega
 have hzb : zz ≤ 16384 := by have := sizeD_bound (up_ok hD (by omega)) jnN; rw [hz0]; omega
 have hrun0 : findL (zz - 0) 0 fm0 D = findJ D := by rw [hz0]; unfold findJ; rfl
 (repeat' ((try (conv => whnf)); first | (guard_target =~ ∃ (_ : Value), ∃ (_ : HP), ∃ (_ : HP), _; refine ⟨_, _, _, rnJrnReadsW2, ?_⟩; (try (dsimp only [Nat.reduceAdd, bC, bL]))) | (guard_target =~ LoopOb _ _ _ _ _ _ _ _; refine loop_join tabOk mixed [(25, [(0, true), (1, true), (2, true), (4, true), (5, true), (3, false), (6, true), (7, true)])] 3 (fun k : RKF => [(0, ptr 0), (6, iv k.F.pages), (7, iv k.F.feet), (8, iv (k.F.loose.length : Nat)), (9, mslice 1 (k.F.sure ++ k.F.loose).length k.c1), (10, mslice 2 k.F.sure.length k.c2), (11, .int .u64 k.F.salt), (12, iv (k.i : Nat))]) (fun k => [(0, refI k.S k.D), (1, .lst 51 2 k.c1 ((k.F.sure ++ k.F.loose).flatMap pgv)), (2, .lst 51 2 k.c2 (k.F.sure.flatMap pgv))]) (fun k => zz - k.i) (fun k => RKR D N zz k) ⟨0, ⟨0, 0, 0, [], []⟩, D, S, 0, 0⟩ 0 3 (fun k : RKF => [(6, iv k.F.pages), (7, iv k.F.feet), (10, mslice 2 k.F.sure.length k.c2)]) (fun k => [(0, refI k.S k.D), (2, .lst 51 2 k.c2 (k.F.sure.flatMap pgv))]) (fun k => RKJ D k) ⟨Nat.zero_le _, hrun0, hD.mono (by dsimp only; omega), FOk.start, RFI.start, Nat.le_refl _, Nat.le_refl _, rfl⟩ ⟨[(0, some 0), (1, some _), (2, some _)], Sub.q cvJrnReadsW1 (by rfl) (by rfl)⟩ (fun k hk => ?_) (fun x hx => ?_)) | (guard_hyp k : RKF; have hk2 := hk; rcases k with ⟨i, F, D1, S1, c1, c2⟩; dsimp only at hk hk2 ⊢; have hki := hk.le; have hok := hk.ok; have hFO := hk.F; have hFI := hk.I; have hC1 := hk.c1; have hC2 := hk.c2; have hks := hk.size; dsimp only at hki hok hFO hFI hC1 hC2 hks; have hpa := hFO.pages; have hfe := hFO.feet; have hle := hFO.len; have hll : (F.sure ++ F.loose).length ≤ i := (by rw [List.length_append]; omega)) | (guard_hyp x : RKF; rcases x with ⟨ix, F, Dj, Sj, d1, d2⟩; have hj : RKJ D ⟨ix, F, Dj, Sj, d1, d2⟩ := hx; clear hx; have hjr := hj.run; have hjF := hj.F.feet; have hjI := hj.I; have hjc := hj.c2; dsimp only at hjr hjF hjI hjc ⊢) | (guard_target =~ CallOb _ 19 _ _ _ _; refine call_q (rsize_q S1 D1 (up_ok hok omT) jnN) [(0, some 0)] cvJrnReadsW1 rfT rfT rfT (fun v h1 n1 hp => ?_); obtain ⟨sz, S1, hsz, rfl, rfl, rfl⟩ := hp; rw [hks] at hsz; have hz1 := hzz sz hsz; (try (dsimp only [Nat.reduceAdd, bC, bL]))) | (guard_target =~ CallOb _ 38 _ _ _ _; refine call_q (rread_c S1 D1 (up_ok hok omT) jnN (i : Nat)) [(0, some 0)] cvJrnReadsW1 rfT rfT rfT (fun v h1 n1 hp => ?_); obtain ⟨⟨sr, er⟩, D2, S2, hr, rfl, rfl, rfl⟩ := hp; have hok2 := read_okN hok jnN ((i : Nat) : Int); rw [← hr] at hok2; dsimp only at hok2; have hs2 := jread_size D1 jnN ((i : Nat) : Int) jnN; rw [← hr] at hs2; dsimp only at hs2; obtain ⟨m, hm1, hm2, hm3⟩ := hk.run1 (by dsimp only; omega); dsimp only at hm1 hm2 hm3; obtain ⟨ok, on, os, oe, od, ho1, ho2, ho3, ho4⟩ := open_vals sr; have hop : ∀ w, Calls Tryz.prog 39 #[.string sr] w fun e w' => e = .returned (.tuple #[.agg #[.int .i64 ok, .int .i64 on, .int .u64 os, .string od], .int .i64 oe]) ∧ Below w.heap.size w w' := (fun w => by have := ropen_any sr w; rw [ho1, ho2] at this; exact this); (try (dsimp only [Nat.reduceAdd, bC, bL]))) | (guard_target =~ CallOb _ 39 _ _ _ _; (with_reducible refine call_pure Tryz.call39 (hop) ?_ ?_ ?_); exact rfl; exact rfl) | (guard_target =~ CallOb _ 40 _ _ _ _; first | (guard_hyp mkU : 1 = 1; obtain ⟨b, hbb⟩ : ∃ b, b = numOf (((bytesOf od).drop 4).take 4) := ⟨_, rfl⟩; have hub : ∀ w, Calls Tryz.prog 40 #[.string (od.extract 4 8)] w fun e w' => e = .returned (.tuple #[.int .u64 (b : Nat), .int .i64 0]) ∧ w = w' := (fun w => by have := runfixed_good (od.extract 4 8) w (by rw [ByteArray.size_extract]; omega) (by rw [ByteArray.size_extract]; omega); rwa [bytes_mid, ← hbb] at this); have hb32 : b < 4294967296 := (by rw [hbb]; exact numOf4 (List.length_take_le _ _)); have hfull := c_full (od.extract 0 8) (by rw [ByteArray.size_extract]; omega); rw [bytes_upto] at hfull; (guard_target =~ CallOb _ 40 _ _ _ _; (with_reducible refine call_same Tryz.call40 (hub) ?_ ?_ ?_); exact rfl; exact rfl)) | (have hod := (ho3 ‹oe = 0›).2.2.2.2; obtain ⟨a, haa⟩ : ∃ a, a = numOf ((bytesOf od).take 4) := ⟨_, rfl⟩; have hua : ∀ w, Calls Tryz.prog 40 #[.string (od.extract 0 4)] w fun e w' => e = .returned (.tuple #[.int .u64 (a : Nat), .int .i64 0]) ∧ w = w' := (fun w => by have := runfixed_good (od.extract 0 4) w (by rw [ByteArray.size_extract]; omega) (by rw [ByteArray.size_extract]; omega); rwa [bytes_upto, ← haa] at this); have ha32 : a < 4294967296 := (by rw [haa]; exact numOf4 (List.length_take_le _ _)); have mkU : 1 = 1 := rfl; (guard_target =~ CallOb _ 40 _ _ _ _; (with_reducible refine call_same Tryz.call40 (hua) ?_ ?_ ?_); exact rfl; exact rfl))) | (guard_target =~ ∃ (_ : Nat), _ ∧ _; first | (guard_hyp hfull : _; refine ⟨8, by omega, by omega, ?_⟩) | (guard_hyp mkU : 1 = 1; refine ⟨4, by omega, 8, by omega, by omega, by omega, ?_⟩) | (have hod := (ho3 ‹oe = 0›).2.2.2.2; refine ⟨4, by omega, by omega, ?_⟩)) | (guard_target =~ CallOb _ 5 _ _ _ _; (with_reducible refine call_pure Tryz.call5 (hfull) ?_ ?_ ?_); exact rfl; exact rfl) | (guard_target =~ CallOb _ 41 _ _ _ _; refine call_q (rbelow_c (F.sure ++ F.loose) c1 (a : Nat) (by rw [List.length_append]; omega)) [(0, some 1)] cvJrnReadsW1 rfT rfT rfT (fun v h1 n1 hp => ?_); obtain ⟨z, hz, rfl, rfl, rfl⟩ := hp; (try (dsimp only [Nat.reduceAdd, bC, bL]))) | (refine ⟨pgs_len _, ?_⟩) | (refine onS_in all_pgs ?_) | (refine chk_in (one_pgs _) ?_) | (with_reducible first | refine chk_in (Nat.ble_eq_true_of_le omT) ?_ | (refine ifB_in ?_ ?_ <;> intro hb <;> (try simp only [bN1, bN2, bN3, bN4, bN5, bN6, bN7, bN8, bN9, bN0] at hb) <;> (try (exfalso; omega))) | refine ⟨_, w64b _, ?_⟩ | refine ⟨_, w64 omT omT, ?_⟩ | refine ⟨_, wu64 omT omT, ?_⟩ | refine ⟨_, wu8 omT omT, ?_⟩ | refine ⟨_, w64 szT szT, ?_⟩ | refine ⟨_, rfl, ?_⟩ | refine ⟨rfl, ?_⟩) | intro cap | (with_reducible refine ⟨trivial, ?_⟩) | (guard_target =~ (planChk _ _ = true) ∧ _; refine ⟨by kernel_rfl, ?_⟩) | (guard_target =~ (_ ∧ _) ∧ _; refine ⟨by ((repeat (first | exact trivial | refine ⟨rfl, ?_⟩)); (first | done | fail)), ?_⟩) | refine ⟨by omega, ?_⟩ | refine ⟨szT, ?_⟩ | refine ⟨0, rfl, ?_⟩ | refine ⟨1, rfl, ?_⟩ | refine ⟨2, rfl, ?_⟩ | refine ⟨3, rfl, ?_⟩ | refine ⟨4, rfl, ?_⟩ | refine ⟨5, rfl, ?_⟩ | (refine cell_at1 (by assumption) ?_) | (refine cell_in1 omT (fun x hx => ?_)) | fail)) <;> (try (conv => whnf))
 all_goals first
  | (exfalso; omega)
  | (guard_hyp hb : er = 13; subst hb; have hse := read_torn hr; subst hse; (refine Gone.go ((⟨i, F, D2, S2, c1, c2⟩ : RKF)) ?_ [(0, some 0), (2, some 2)] (Sub.q cvJrnReadsW1 (by rfl) (by rfl))); exact ⟨(find_stop hr (by omega) (step_none open_empty)).symm.trans hm3, hFO, hFI, hC2⟩)
  | (guard_hyp hb : ¬ er = 0; (refine Ends.go (((er, 0, [], false), D2, S2, 0)) ?_ [(0, some 0), (60, none)] (Fit.q cvJrnReadsW1 (by rfl) (by rfl))); exact ⟨found_err ((find_err hr hb ‹¬ er = 13›).symm.trans hm3) hb, Nat.le_refl _⟩)
  | (guard_hyp hb : ¬ oe = 0; (refine Gone.go ((⟨i, F, D2, S2, c1, c2⟩ : RKF)) ?_ [(0, some 0), (2, some 2)] (Sub.q cvJrnReadsW1 (by rfl) (by rfl))); exact ⟨(find_stop hr (by omega) (step_none (by rw [ho2]; exact hb))).symm.trans hm3, hFO, hFI, hC2⟩)
  | (guard_target =~ Gone _ _ _ _ _ _ _; have ho0 : oe = 0 := ‹_›; have hsa := step_add (F := F) (b := decide (i = 0)) (ho2.trans ho0) (ho3 ho0); have hno : addF F ok on os od (decide (i = 0)) = none := (by first
   | exact addF_salt ⟨decide_eq_false (by omega), ‹¬ os = F.salt›⟩
   | exact (addF_rec (by rintro ⟨q1, q2⟩; first | exact q2 ‹os = F.salt› | exact absurd (of_decide_eq_false q1) (by omega)) ‹ok = 2›).2 (by omega)
   | exact addF_other (by rintro ⟨q1, q2⟩; first | exact q2 ‹os = F.salt› | exact absurd (of_decide_eq_false q1) (by omega)) ‹¬ ok = 2› ‹¬ ok = 3›
   | exact (addF_foot (by rintro ⟨q1, q2⟩; first | exact q2 ‹os = F.salt› | exact absurd (of_decide_eq_false q1) (by omega)) ‹ok = 3› (m := (a : Nat)) (by rw [haa])).1 ((bad_iff hFI hFO (by omega) hod (by rw [haa]) (b := (b : Nat)) (by rw [hbb])).2 (by unfold BadR; first
    | exact .inl (strEq_ne ‹strEq _ od = false›)
    | exact .inr (.inl ‹¬ on = ↑F.loose.length›)
    | exact .inr (.inr (.inl ‹¬ (b : Int) = F.feet›))
    | exact .inr (.inr (.inr (.inl ‹4096 < (a : Int)›)))
    | exact .inr (.inr (.inr (.inr (.inl ⟨‹0 < F.feet›, ‹¬ (a : Int) = F.pages›⟩))))
    | exact .inr (.inr (.inr (.inr (.inr (Classical.byContradiction fun hh => by rw [hz.2 hh] at hb; cases hb)))))))); (refine Gone.go ((⟨i, F, D2, S2, c1, c2⟩ : RKF)) ?_ [(0, some 0), (2, some 2)] (Sub.q cvJrnReadsW1 (by rfl) (by rfl))); exact ⟨(find_stop hr (by omega) (hsa.trans hno)).symm.trans hm3, hFO, hFI, hC2⟩)
  | (guard_hyp hm3 : _; guard_target =~ Again _ _ _ _ _ _ _ _ _; have ho0 : oe = 0 := ‹_›; have hsa := step_add (F := F) (b := decide (i = 0)) (ho2.trans ho0) (ho3 ho0); have hs0 : ¬ (decide (i = 0) = false ∧ os ≠ F.salt) := (by rintro ⟨q1, q2⟩; first | exact q2 ‹os = F.salt› | exact absurd (of_decide_eq_false q1) (by omega)); first
   | (have hk2' : ok = 2 := ‹_›; have hon : on < 4096 := (by omega); (refine Again.go ((⟨i + 1, { F with salt := os, loose := F.loose ++ [(on, od)] }, D2, S2, _, c2⟩ : RKF)) ?_ (by (try dsimp only); omega) [(0, some 0), (1, some _), (2, some 2)] (Sub.q cvJrnReadsW1 (by rfl) (by rfl))); refine ⟨by dsimp only; omega, by dsimp only; rw [hm2]; exact (find_go hr (by omega) (hsa.trans ((addF_rec hs0 hk2').1 hon))).symm.trans hm3, hok2.mono (by dsimp only; omega), ⟨hpa, by dsimp only; omega, by dsimp only; rw [List.length_append, List.length_singleton]; omega⟩, hFI.recd os on od, ?_, hC2, hs2.trans hks⟩; dsimp only; rw [← List.append_assoc, List.length_append]; assumption)
   | (have hk3 : ok = 3 := ‹_›; have hnb : ¬ BadF F (a : Nat) on od := (fun hb3 => by
    have hb4 := (bad_iff hFI hFO (by omega) hod (by rw [haa]) (b := (b : Nat)) (by rw [hbb])).1 hb3
    unfold BadR at hb4
    rcases hb4 with q | q | q | q | q | q
    · exact q (strEq_is ‹strEq _ od = true›)
    · exact q ‹on = ↑F.loose.length›
    · exact q ‹(b : Int) = F.feet›
    · omega
    · first | exact q.2 ‹(a : Int) = F.pages› | (exfalso; omega)
    · exact (hz.1 hb) q); (refine Again.go ((⟨i + 1, ⟨(a : Nat), F.feet + 1, os, F.sure ++ F.loose, []⟩, D2, S2, c1, _⟩ : RKF)) ?_ (by (try dsimp only); omega) [(0, some 0), (1, some 1), (2, some _)] (Sub.q cvJrnReadsW1 (by rfl) (by rfl))); refine ⟨by dsimp only; omega, by dsimp only; rw [hm2]; exact (find_go hr (by omega) (hsa.trans ((addF_foot hs0 hk3 (by rw [haa])).2 hnb))).symm.trans hm3, hok2.mono (by dsimp only; omega), ⟨by dsimp only; omega, by dsimp only; omega, by dsimp only; rw [List.length_append, List.length_nil]; omega⟩, hFI.foot hFO os hnb, ?_, ?_, hs2.trans hks⟩; (dsimp only; rw [List.append_nil]; exact hC1); (dsimp only; omega)))
  | (guard_target =~ Gone _ _ _ _ _ _ _; (refine Gone.go ((⟨i, F, D1, S1, c1, c2⟩ : RKF)) ?_ [(0, some 0), (2, some 2)] (Sub.q cvJrnReadsW1 (by rfl) (by rfl))); refine ⟨?_, hFO, hFI, hC2⟩; have hq := hk.run; dsimp only at hq; rw [show zz - i = 0 by omega, find_zero] at hq; exact hq)
  | (guard_hyp hb : F.feet = 0; (refine Ends.go (((0, 0, [], false), Dj, Sj, 0)) ?_ [(0, some 0), (60, none)] (Fit.q cvJrnReadsW1 (by rfl) (by rfl))); refine ⟨?_, Nat.le_refl _⟩; have hq := found_of hjr; obtain ⟨q1, q2⟩ := hjI.none hb; rw [q1, q2, hb] at hq; exact hq)
  | (guard_hyp hb : ¬ F.feet = 0; (refine Ends.go (((0, F.pages, F.sure, true), Dj, Sj, d2)) ?_ [(0, some 0), (60, some 2)] (Fit.q cvJrnReadsW1 (by rfl) (by rfl))); refine ⟨?_, hjc⟩; have hq := found_of hjr; rw [decide_eq_true (by omega)] at hq; exact hq)
  | trace_state
end Go.Proofs.YtelolcagncgfpaaGreat
namespace Go.Proofs.YtelolcagncgfpaaGreat
open Go.RowKit
set_option linter.unusedSimpArgs false
set_option linter.unusedVariables false
def hasN (l : List Pg) (n : Int) : Bool := l.any fun q => q.1 == n
theorem hasN_iff {l : List Pg} {n : Int} : hasN l n = true ↔ n ∈ l.map fun q => q.1 := by
 unfold hasN
 simp only [List.any_eq_true, beq_iff_eq, List.mem_map]
def ksF (l : List Pg) : Nat → Nat → List Int
 | 0, _ => []
 | m + 1, n => if hasN l (n : Nat) = true then ((n : Nat) : Int) :: ksF l m (n + 1) else ksF l m (n + 1)
theorem ksF_mem {l : List Pg} : ∀ {m n : Nat} {a : Int}, a ∈ ksF l m n ↔ ((n : Nat) ≤ a ∧ a < ((n + m : Nat) : Int)) ∧ a ∈ l.map fun q => q.1
 | 0, n, a => by
  unfold ksF
  exact ⟨fun h => (by cases h), fun ⟨⟨h1, h2⟩, _⟩ => absurd h1 (by omega)⟩
 | m + 1, n, a => by
  unfold ksF
  split
  · rename_i hh
    rw [List.mem_cons, ksF_mem]
    constructor
    · rintro (rfl | ⟨⟨h1, h2⟩, h3⟩)
      · exact ⟨⟨Int.le_refl _, by omega⟩, hasN_iff.1 hh⟩
      · exact ⟨⟨by omega, by omega⟩, h3⟩
    · rintro ⟨⟨h1, h2⟩, h3⟩
      by_cases e : a = (n : Nat)
      · exact .inl e
      · exact .inr ⟨⟨by omega, by omega⟩, h3⟩
  · rename_i hh
    rw [ksF_mem]
    constructor
    · rintro ⟨⟨h1, h2⟩, h3⟩
      exact ⟨⟨by omega, by omega⟩, h3⟩
    · rintro ⟨⟨h1, h2⟩, h3⟩
      refine ⟨⟨?_, by omega⟩, h3⟩
      by_cases e : a = (n : Nat)
      · rw [e] at h3; exact absurd (hasN_iff.2 h3) hh
      · omega
theorem ksF_lt {l : List Pg} : ∀ {m n : Nat}, (ksF l m n).Pairwise (· < ·)
 | 0, n => by unfold ksF; exact List.Pairwise.nil
 | m + 1, n => by
  unfold ksF
  split
  · refine List.Pairwise.cons (fun a ha => ?_) ksF_lt
    have := (ksF_mem.1 ha).1.1
    omega
  · exact ksF_lt
theorem sorted_uniq : ∀ {a b : List Int}, a.Pairwise (· < ·) → b.Pairwise (· < ·) → (∀ x, x ∈ a ↔ x ∈ b) → a = b
 | [], [], _, _, _ => rfl
 | [], y :: b, _, _, h => by have := (h y).2 List.mem_cons_self; cases this
 | x :: a, [], _, _, h => by have := (h x).1 List.mem_cons_self; cases this
 | x :: a, y :: b, ha, hb, h => by
  obtain ⟨ha1, ha2⟩ := List.pairwise_cons.1 ha
  obtain ⟨hb1, hb2⟩ := List.pairwise_cons.1 hb
  have e : x = y := by
   rcases List.mem_cons.1 ((h x).1 List.mem_cons_self) with e | e
   · exact e
   · rcases List.mem_cons.1 ((h y).2 List.mem_cons_self) with e2 | e2
     · exact e2.symm
     · have h1 := hb1 x e
       have h2 := ha1 y e2
       omega
  subst e
  congr 1
  refine sorted_uniq ha2 hb2 fun z => ⟨fun hz => ?_, fun hz => ?_⟩
  · rcases List.mem_cons.1 ((h z).1 (List.mem_cons_of_mem _ hz)) with e | e
    · have := ha1 z hz; omega
    · exact e
  · rcases List.mem_cons.1 ((h z).2 (List.mem_cons_of_mem _ hz)) with e | e
    · have := hb1 z hz; omega
    · exact e
theorem lookP_put : ∀ {M : List Pg} {n : Int} {d : ByteArray} {m : Int}, lookP (putP M n d) m = if m = n then d else lookP M m
 | [], n, d, m => by
  unfold putP lookP
  by_cases h : m = n
  · subst h; simp
  · rw [if_neg h, List.find?_cons_of_neg (by simp; omega)]
 | q :: r, n, d, m => by
  unfold putP
  split
  · rename_i hq
    unfold lookP
    by_cases h : m = n
    · subst h; simp
    · rw [if_neg h, List.find?_cons_of_neg (by simp; omega), List.find?_cons_of_neg (by simp; omega)]
  · rename_i hq
    have ih := lookP_put (M := r) (n := n) (d := d) (m := m)
    unfold lookP at ih ⊢
    by_cases hm : q.1 = m
    · rw [List.find?_cons_of_pos (by simpa using hm), List.find?_cons_of_pos (by simpa using hm), if_neg (by omega)]
    · rw [List.find?_cons_of_neg (by simpa using hm), List.find?_cons_of_neg (by simpa using hm)]
      exact ih
theorem look_first : ∀ {l : List Pg} {i : Nat} {q : Pg}, l[i]? = some q → (∀ c ∈ l.take i, ¬ c.1 = q.1) → lookP (firstM l) q.1 = q.2
 | [], i, q, h, _ => by cases h
 | a :: l, 0, q, h, _ => by
  have e : a = q := by simpa using h
  subst e
  show lookP (putP (firstM l) a.1 a.2) a.1 = _
  rw [lookP_put, if_pos rfl]
 | a :: l, i + 1, q, h, hno => by
  have ih := look_first (l := l) (i := i) (q := q) (by simpa using h) fun c hc => hno c (by rw [List.take_succ_cons]; exact List.mem_cons_of_mem _ hc)
  show lookP (putP (firstM l) a.1 a.2) q.1 = _
  have hne := hno a (by rw [List.take_succ_cons]; exact List.mem_cons_self)
  rw [lookP_put, if_neg (fun e => hne e.symm)]
  exact ih
theorem backR_fn {D D1 D2 : DM} {e1 e2 : Int} (h1 : BackR D e1 D1) (h2 : BackR D e2 D2) : e1 = e2 ∧ D1 = D2 := by
 unfold BackR at h1 h2
 split at h1
 · rename_i h; rw [if_pos h] at h2; exact ⟨h1.1.trans h2.1.symm, h1.2.trans h2.2.symm⟩
 · rename_i h
   rw [if_neg h] at h2
   split at h1
   · rename_i h'
     rw [if_pos h'] at h2
     obtain ⟨k1, p1, m1, r1⟩ := h1
     obtain ⟨k2, p2, m2, r2⟩ := h2
     obtain rfl := sorted_uniq p1 p2 fun x => (m1 x).trans (m2 x).symm
     split at r1
     · rename_i hr; rw [if_pos hr] at r2; exact ⟨r1.1.trans r2.1.symm, r1.2.trans r2.2.symm⟩
     · rename_i hr; rw [if_neg hr] at r2; have := r1.trans r2.symm; exact ⟨congrArg Prod.fst this, congrArg Prod.snd this⟩
   · rename_i h'
     rw [if_neg h'] at h2
     have := h1.trans h2.symm
     exact ⟨congrArg Prod.fst this, congrArg Prod.snd this⟩
structure FWhole (F : FM) : Prop where
 feet : 0 ≤ F.feet
 size : ∀ q ∈ F.sure ++ F.loose, q.2.size = 232
 below : 0 < F.feet → ∀ p ∈ F.sure, p.1 < F.pages
 none : F.feet = 0 → F.sure = []
theorem open_size {s : ByteArray} (h : openE s = 0) : s.size = 256 := by
 unfold openE at h
 split at h
 · rename_i hs
   have := (isSeal_iff.1 hs).1
   rwa [bytesOf_length] at this
 · split at h <;> cases h
theorem stepF_whole {F F' : FM} {s : ByteArray} {b : Bool} (h : FWhole F) (hs : stepF F s b = some F') : FWhole F' := by
 unfold stepF at hs
 split at hs
 · rename_i hop
   have hsz := open_size hop
   unfold addF at hs
   dsimp only at hs
   split at hs
   · cases hs
   · split at hs
     · split at hs
       · cases hs
         refine ⟨h.feet, fun q hq => ?_, h.below, h.none⟩
         dsimp only at hq
         rw [← List.append_assoc] at hq
         rcases List.mem_append.1 hq with hq | hq
         · exact h.size q hq
         · obtain rfl := List.mem_singleton.1 hq
           dsimp only
           rw [ByteArray.size_extract]; omega
       · cases hs
     · split at hs
       · split at hs
         · cases hs
         · rename_i hn
           cases hs
           have hf := h.feet
           refine ⟨by dsimp only; omega, fun q hq => h.size q (by simpa using hq), fun _ p hp => ?_, fun e => absurd e (by dsimp only; omega)⟩
           dsimp only at hp ⊢
           refine Classical.byContradiction fun hge => hn ?_
           rcases List.mem_append.1 hp with hp | hp
           · by_cases hz : 0 < F.feet
             · have := h.below hz p hp
               exact .inr (.inl ⟨hz, by omega⟩)
             · rw [h.none (by omega)] at hp; cases hp
           · exact .inr (.inr (.inr (.inr ⟨p, hp, by omega⟩)))
       · cases hs
 · cases hs
theorem findL_whole : ∀ (m i : Nat) (F : FM) (D : DM), FWhole F → FWhole (findL m i F D).1.2
 | 0, _, _, _, h => h
 | m + 1, i, F, D, h => by
  unfold findL
  dsimp only
  split
  · exact h
  · cases hs : stepF F (readD D jnN (i : Nat)).1.1 (decide (i = 0)) with
    | none => exact h
    | some F' => exact findL_whole m (i + 1) F' _ (stepF_whole h hs)
theorem foundJ_whole (D : DM) : (∀ q ∈ (foundJ D).1.2.2.1, q.2.size = 232) ∧ ((foundJ D).1.2.2.2 = true → ∀ q ∈ (foundJ D).1.2.2.1, q.1 < (foundJ D).1.2.1) := by
 have h := findL_whole (max (sizeD D jnN) 0).toNat 0 fm0 D ⟨Int.le_refl _, fun q hq => by simp [fm0] at hq, fun h => absurd h (by decide), fun _ => rfl⟩
 unfold foundJ
 split
 · exact ⟨fun q hq => (by cases hq), fun h => (by cases h)⟩
 · exact ⟨fun q hq => h.size q (List.mem_append_left _ hq), fun hz => h.below (of_decide_eq_true hz)⟩
theorem writeAll_cons (M : List Pg) (n : Int) (ks : List Int) (D : DM) : writeAll M (n :: ks) D = if closeE 1 n (lookP M n) = 0 then (if (writeD D mainN n (closeS 1 n 0 (lookP M n))).1 = 0 then writeAll M ks (writeD D mainN n (closeS 1 n 0 (lookP M n))).2 else ((writeD D mainN n (closeS 1 n 0 (lookP M n))).1, (writeD D mainN n (closeS 1 n 0 (lookP M n))).2)) else (closeE 1 n (lookP M n), D) := by
 conv => lhs; unfold writeAll
structure WBR (l : List Pg) (p : Nat) (D0 : DM) (N : Int) (n : Nat) (D : DM) : Prop where
 le : n ≤ p
 run : writeAll (firstM l) (ksF l (p - n) n) D = writeAll (firstM l) (ksF l p 0) D0
 ok : D.OkN (N + n)
section
variable {l : List Pg} {p n : Nat} {D0 D : DM} {N : Int} (h : WBR l p D0 N n D)
include h
theorem WBR.skip (hn : n < p) (hno : ∀ c ∈ l, ¬ c.1 = (n : Nat)) : WBR l p D0 N (n + 1) D := by
 refine ⟨hn, ?_, h.ok.mono (by omega)⟩
 have e : ksF l (p - n) n = ksF l (p - (n + 1)) (n + 1) := by
  rw [show p - n = (p - (n + 1)) + 1 by omega]
  conv => lhs; unfold ksF
  rw [if_neg]
  intro hh
  obtain ⟨q, hq, e⟩ := List.mem_map.1 (hasN_iff.1 hh)
  exact hno q hq e
 rw [← e]; exact h.run
omit h in
theorem WBR.has (hn : n < p) {i : Nat} {q : Pg} (hi : l[i]? = some q) (hq : q.1 = (n : Nat)) (hno : ∀ c ∈ l.take i, ¬ c.1 = (n : Nat)) : ksF l (p - n) n = ((n : Nat) : Int) :: ksF l (p - (n + 1)) (n + 1) ∧ lookP (firstM l) (n : Nat) = q.2 := by
 constructor
 · rw [show p - n = (p - (n + 1)) + 1 by omega]
   conv => lhs; unfold ksF
   rw [if_pos (hasN_iff.2 (List.mem_map.2 ⟨q, List.mem_of_getElem? hi, hq⟩))]
 · have := look_first hi (fun c hc => by rw [hq]; exact hno c hc)
   rw [hq] at this
   exact this
theorem WBR.put (hn : n < p) {i : Nat} {q : Pg} (hi : l[i]? = some q) (hq : q.1 = (n : Nat)) (hno : ∀ c ∈ l.take i, ¬ c.1 = (n : Nat)) (hc : closeE 1 (n : Nat) q.2 = 0) {e : Int} {D' : DM} (hw : (e, D') = writeD D mainN (n : Nat) (closeS 1 (n : Nat) 0 q.2)) :
 (e = 0 → WBR l p D0 N (n + 1) D') ∧ (¬ e = 0 → writeAll (firstM l) (ksF l p 0) D0 = (e, D')) := by
 obtain ⟨h1, h2⟩ := WBR.has (l := l) (p := p) hn hi hq hno
 have hr := h.run
 rw [h1, writeAll_cons, h2, if_pos hc, ← hw] at hr
 dsimp only at hr
 have hok := write_okN h.ok mainN (n : Nat) (closeS 1 (n : Nat) 0 q.2)
 rw [← hw] at hok
 exact ⟨fun h0 => ⟨hn, by rw [if_pos h0] at hr; exact hr, hok.mono (by omega)⟩, fun h0 => by rw [if_neg h0] at hr; exact hr.symm⟩
theorem WBR.all (hn : p ≤ n) : writeAll (firstM l) (ksF l p 0) D0 = (0, D) := by
 have := h.le
 have hr := h.run
 rw [show p - n = 0 by omega] at hr
 exact hr.symm
end
section
variable {D D5 D' : DM} {p : Nat} {l : List Pg} {e : Int} (hf : ((0, ((p : Nat) : Int), l, true), D5) = foundJ D) (hl : ∀ q ∈ l, 0 ≤ q.1 ∧ q.1 < (p : Nat))
include hf hl
theorem back_any {r : Int × DM} (hr : r = restoreD (p : Nat) (firstM l) (ksF l p 0) D5) : (¬ r.1 = 0 → BackR D (badE r.1) r.2) ∧ (r.1 = 0 → ∀ e D', (e, D') = gonJ r.2 → BackR D e D') := by
 have hk : ∀ a, a ∈ ksF l p 0 ↔ a ∈ (firstM l).map fun q => q.1 := fun a => by
  rw [ksF_mem, firstM_keys]
  refine ⟨fun h => h.2, fun h => ⟨?_, h⟩⟩
  obtain ⟨q, hq, rfl⟩ := List.mem_map.1 h
  have := hl q hq
  omega
 constructor
 · intro h0
   unfold BackR
   rw [← hf]
   dsimp only
   rw [if_neg (fun h => h rfl), if_pos rfl]
   refine ⟨_, ksF_lt, hk, ?_⟩
   rw [← hr, if_pos h0]
   exact ⟨rfl, rfl⟩
 · intro h0 e D' hg
   unfold BackR
   rw [← hf]
   dsimp only
   rw [if_neg (fun h => h rfl), if_pos rfl]
   refine ⟨_, ksF_lt, hk, ?_⟩
   rw [← hr, if_neg (fun h => h h0)]
   exact hg
end
theorem res_write {p : Nat} {l : List Pg} {D5 D6 : DM} {e : Int} (h : writeAll (firstM l) (ksF l p 0) D5 = (e, D6)) (he : ¬ e = 0) : (e, D6) = restoreD (p : Nat) (firstM l) (ksF l p 0) D5 := by
 unfold restoreD
 rw [h]
 dsimp only
 rw [if_pos he]
theorem res_rest {p : Nat} {l : List Pg} {D5 D6 D7 D8 : DM} {e7 e8 : Int} (h : writeAll (firstM l) (ksF l p 0) D5 = (0, D6)) (h7 : (e7, D7) = if ((p : Nat) : Int) < sizeD D6 mainN then cutD D6 mainN (p : Nat) else (0, D6)) :
 (¬ e7 = 0 → (e7, D7) = restoreD (p : Nat) (firstM l) (ksF l p 0) D5) ∧ (e7 = 0 → (e8, D8) = (if sizeD D7 mainN < 0 then (0, D7) else syncD D7 mainN) → (e8, D8) = restoreD (p : Nat) (firstM l) (ksF l p 0) D5) := by
 unfold restoreD
 rw [h]
 dsimp only
 rw [if_neg (fun h => h rfl), ← h7]
 dsimp only
 exact ⟨fun h0 => by rw [if_pos h0], fun h0 h8 => by rw [if_neg (fun h => h h0)]; exact h8⟩
structure OBK where
 n : Nat
 D : DM
 S : Nat → Prop
attribute [local irreducible] numOf fixedL bytesOf strOf strEq strLt sfrom closeS closeE layD footS writeD sizeD syncD cutD dropD readD findJ foundJ openE openV gonJ restoreD firstM BackR writeAll ksF badE
theorem cvJrnReadsW3 {p : Prop} (h : p := by have nw := True.intro; (repeat' (first | exact True.intro | (with_reducible exact rfl) | (with_reducible exact AbsLe.refl) | (guard_target =~ @Eq Nat _ _; first | exact rfl | omega) | (guard_target =~ List.map _ _ = []; exact rfl) | (first | (guard_target =~ @Eq (List Value) _ _; exact rfl) | exact covL_of rfl (flat_bind (f := pgv) (fun _ => rfl) _) | first | exact covL_still rfl hvs | exact covL_still rfl (still_map (fun _ => rfl) _) | exact covL_still rfl (still_map ro_still _) | (apply covL_set <;> (try clear nw) <;> have nw := True.intro) | exact congrArg (Value.int _) (by (try dsimp only); omega)) | (exact congrArg (Value.int _) (by omega)) | (exact covL_flat (flat_map (fun _ => rfl) _)) | (exact covL_flat flat_nil) | (refine covP_all ?_; (try clear nw); have nw := True.intro) | (refine covL_each ?_; (try clear nw); have nw := True.intro) | (refine ⟨?_, ?_⟩ <;> (try clear nw) <;> have nw := True.intro) | (guard_hyp nw : True; ((conv => whnf) <;> clear nw)))); (first | done | fail)) : p := h
theorem rnJrnReadsW4 {p : Prop} (h : p := by refine ⟨?_, ?_, ?_⟩; (first | apply rR_tuple | apply rR_one rfl | exact rfl); all_goals (repeat' (first | (with_reducible (first | exact relH_nil | apply rn_lst | apply rn_own | apply rn_mp | apply rn_row | apply rn_abs | exact wo_nil)) | apply wo_keep rfl | apply wo_drop rfl | exact relH_nil | exact r1_flat rfl | exact r0_flat rfl | exact rl_nil | exact wo_nil | exact bk_old rfl | exact bk_new rfl | exact bk_nil rfl | apply rl_cons | (first | exact relL_flat (flat_bind (f := pgv) (fun _ => rfl) _) | first | exact relL_still hvs | exact relL_still (still_map (fun _ => rfl) _) | exact relL_still (still_map ro_still _) | exact relL_flat (flat_map (fun _ => rfl) _) | apply relL_set) | exact relL_flat (flat_map (fun _ => rfl) _) | exact relL_flat flat_nil | apply relL_to | apply rn_lst | apply rn_own | apply rn_mp | apply rn_row | apply relH_view rfl | apply relH_lview rfl | apply relH_fact rfl | exact r1_rig | exact r0_rig | exact r1_rigs | exact r0_rigs | apply wo_keep rfl | apply wo_drop rfl | apply r1_agg | apply rn_ptr | apply rn_slice | apply rn_slice0 | apply rn_iface | apply rn_map | apply rn_ifacem | apply r0_map | apply r0_ifacem | apply r0_ptr | apply r0_slice | apply r0_slice0 | apply r0_iface)); (first | done | fail)) : p := h
theorem rbad_c (e : Int) : CallOb Tryz.prog 46 [iv e] [] 0 (fun v h m => ∃ z : Int, z = badE e ∧ v = iv z ∧ h = [] ∧ m = 0) := by
 refine call_spec tabOk mixed Tryz.call46 Tryz.func46 rfl [] (fun z : Int => z = badE e) (fun z => iv z) (fun _ => []) (fun _ => 0) ?_ ?_
 · exact (Nat.le_of_ble_eq_true rfl)
 (repeat' ((try (conv => whnf)); first | (guard_target =~ ∃ (_ : Value), ∃ (_ : HP), ∃ (_ : HP), _; refine ⟨_, _, _, rnJrnReadsW4, ?_⟩; (try (dsimp only [Nat.reduceAdd, bC, bL]))) | (fail) | (with_reducible first | refine chk_in (Nat.ble_eq_true_of_le omT) ?_ | (refine ifB_in ?_ ?_ <;> intro hb <;> (try simp only [bN1, bN2, bN3, bN4, bN5, bN6, bN7, bN8, bN9, bN0] at hb) <;> (try (exfalso; omega))) | refine ⟨_, w64b _, ?_⟩ | refine ⟨_, w64 omT omT, ?_⟩ | refine ⟨_, wu64 omT omT, ?_⟩ | refine ⟨_, wu8 omT omT, ?_⟩ | refine ⟨_, w64 szT szT, ?_⟩ | refine ⟨_, rfl, ?_⟩ | refine ⟨rfl, ?_⟩) | intro cap | (with_reducible refine ⟨trivial, ?_⟩) | (guard_target =~ (planChk _ _ = true) ∧ _; refine ⟨by kernel_rfl, ?_⟩) | (guard_target =~ (_ ∧ _) ∧ _; refine ⟨by ((repeat (first | exact trivial | refine ⟨rfl, ?_⟩)); (first | done | fail)), ?_⟩) | refine ⟨by omega, ?_⟩ | refine ⟨szT, ?_⟩ | refine ⟨0, rfl, ?_⟩ | refine ⟨1, rfl, ?_⟩ | refine ⟨2, rfl, ?_⟩ | refine ⟨3, rfl, ?_⟩ | refine ⟨4, rfl, ?_⟩ | refine ⟨5, rfl, ?_⟩ | (refine cell_at1 (by assumption) ?_) | (refine cell_in1 omT (fun x hx => ?_)) | fail)) <;> (try (conv => whnf))
 all_goals first
  | ((refine Ends.go (30) ?_ [] (Fit.q cvJrnReadsW3 (by rfl) (by rfl))); unfold badE; rw [if_pos hb])
  | ((refine Ends.go (e) ?_ [] (Fit.q cvJrnReadsW3 (by rfl) (by rfl))); unfold badE; rw [if_neg hb])
  | trace_state
theorem gon_no {D : DM} (h : sizeD D jnN < 0) : (0, D) = gonJ D := by unfold gonJ; rw [if_pos h]
theorem gon_yes {D : DM} (h : ¬ sizeD D jnN < 0) {x : Int × DM} (hx : x = dropD D jnN) : x = gonJ D := by unfold gonJ; rw [if_neg h]; exact hx
set_option maxRecDepth 100000 in
set_option maxHeartbeats 8000000 in
theorem rback_c (S : Nat → Prop) (D : DM) {N : Int} (hD : D.OkN N) (hN : N ≤ 800000) :
 CallOb Tryz.prog 15 [ptr 0] [(0, refI S D)] 1 (fun v h m => ∃ x : Int × DM × (Nat → Prop), BackR D x.1 x.2.1 ∧ v = iv x.1 ∧ h = [(0, refI x.2.2 x.2.1)] ∧ m = 4000) := by
 refine call_spec tabOk mixed Tryz.call15 Tryz.func15 rfl [] (fun x : Int × DM × (Nat → Prop) => BackR D x.1 x.2.1) (fun x => iv x.1) (fun x => [(0, refI x.2.2 x.2.1)]) (fun _ => 4000) ?_ ?_
 · exact (Nat.le_of_ble_eq_true rfl)
 (repeat' ((try (conv => whnf)); first | (guard_target =~ ∃ (_ : Value), ∃ (_ : HP), ∃ (_ : HP), _; refine ⟨_, _, _, rnJrnReadsW4, ?_⟩; (try (dsimp only [Nat.reduceAdd, bC, bL]))) | (guard_target =~ CallOb _ 12 _ _ _ _; refine call_q (rfind_c S D hD omT) [(0, some 0)] cvJrnReadsW3 rfT rfT rfT (fun v h1 n1 hp => ?_); obtain ⟨⟨⟨e5, pg, sr, is⟩, D5, S5, cp⟩, ⟨hr5, hcp⟩, rfl, rfl, rfl⟩ := hp; dsimp only at hr5 hcp; have hk5 := foundJ_okN hD omT; have hg5 := foundJ_good hD omT; have hw5 := foundJ_whole D; rw [← hr5] at hk5 hg5 hw5; dsimp only at hk5 hg5 hw5; have mkF : 1 = 1 := rfl; cases is <;> (try (dsimp only [Nat.reduceAdd, bC, bL]))) | (guard_hyp hr5 : ((e5, pg, sr, false), D5) = _; guard_target =~ LoopOb _ _ _ _ _ _ _ _; with_reducible refine loop_fuel tabOk mixed [] 1 ?_) | (guard_hyp mkF : 1 = 1; guard_target =~ LoopOb _ _ _ _ _ _ _ _; clear mkF; obtain ⟨pn, hpn⟩ : ∃ pn : Nat, pg = (pn : Nat) := ⟨pg.toNat, by omega⟩; subst hpn; have hl5 : ∀ q ∈ sr, 0 ≤ q.1 ∧ q.1 < (pn : Nat) := (fun q hq => ⟨(hg5.2.1 q hq).1, hw5.2 rfl q hq⟩); obtain rfl : e5 = 0 := ‹_›; refine loop_rule tabOk mixed [] 62 (fun k : OBK => [(0, ptr 0), (3, iv (pn : Nat)), (4, mslice 61 sr.length cp), (5, .bool true), (7, iv (k.n : Nat))]) (fun k => [(0, refI k.S k.D), (61, .lst 51 2 cp (sr.flatMap pgv))]) (fun k => pn - k.n) (fun k => WBR sr pn D5 (N + 16384) k.n k.D) ⟨0, D5, S5⟩ ⟨Nat.zero_le _, rfl, hk5.mono (by dsimp only; omega)⟩ ⟨[(0, some 0), (61, some 61)], Sub.q cvJrnReadsW3 (by rfl) (by rfl)⟩ (fun k hk => ?_)) | (guard_hyp k : OBK; rcases k with ⟨n, D6, S6⟩; dsimp only at hk ⊢; have hkn := hk.le; have hk6 := hk.ok; have mkI : 1 = 1 := rfl; have mk8 : 1 = 1 := rfl) | (guard_hyp mkI : 1 = 1; guard_target =~ LoopOb _ _ _ _ _ _ _ _; clear mkI; refine loop_rule tabOk mixed [] 62 (fun i : Nat => [(0, ptr 0), (3, iv (pn : Nat)), (4, mslice 61 sr.length cp), (5, .bool true), (7, iv (n : Nat)), (8, iv (i : Nat))]) (fun i => [(0, refI S6 D6), (61, .lst 51 2 cp (sr.flatMap pgv))]) (fun i => sr.length - i) (fun i => i ≤ sr.length ∧ ∀ c ∈ sr.take i, ¬ c.1 = (n : Nat)) 0 ⟨Nat.zero_le _, fun c hc => by simp at hc⟩ ⟨[(0, some 0), (61, some 61)], Sub.q cvJrnReadsW3 (by rfl) (by rfl)⟩ (fun i hi => ?_)) | (guard_target =~ ∃ (_ : Nat), _ ∧ _; guard_hyp hi : i ≤ _ ∧ _; first | (guard_hyp hci : sr[i]? = some _; refine ⟨i, by omega, by omega, ?_⟩) | (obtain ⟨c, hci⟩ : ∃ c, sr[i]? = some c := ⟨_, List.getElem?_eq_getElem (show i < sr.length by omega)⟩; refine ⟨i, by omega, by omega, ?_⟩)) | (guard_hyp hci : sr[i]? = some c; first | refine onS_in (cell_pg hci (j := 0) (by decide) omT rfl) ?_ | refine onS_in (cell_pg hci (j := 1) (by decide) omT rfl) ?_) | (guard_target =~ CallOb _ 6 _ _ _ _; have hcz := hw5.1 c (List.mem_of_getElem? hci); have hcl := closed_ok (k := 1) (n := (n : Nat)) (s := 0) (d := c.2) (by decide) omT hcz; have hcc := (fun w => rclose_any 1 (n : Nat) 0 c.2 w ⟨by decide, by decide⟩); obtain ⟨es, hes⟩ : ∃ es, es = closeE 1 (n : Nat) c.2 := ⟨_, rfl⟩; obtain ⟨cs, hcs⟩ : ∃ cs, cs = closeS 1 (n : Nat) (Int.toNat 0) c.2 := ⟨_, rfl⟩; rw [← hes, ← hcs] at hcc; (guard_target =~ CallOb _ 6 _ _ _ _; (with_reducible refine call_pure Tryz.call6 (hcc) ?_ ?_ ?_); exact rfl; exact rfl)) | (guard_target =~ CallOb _ 45 _ _ _ _; refine call_q (rwrite_c S6 D6 (up_ok hk6 omT) mainN (n : Nat) cs) [(0, some 0)] cvJrnReadsW3 rfT rfT rfT (fun v h1 n1 hp => ?_); obtain ⟨e9, D9, S9, hw9, rfl, rfl, rfl⟩ := hp; rw [hcs] at hw9; obtain ⟨hp1, hp2⟩ := hk.put omT hci omT hi.2 hcl.1 hw9; (try (dsimp only [Nat.reduceAdd, bC, bL]))) | (guard_target =~ CallOb _ 46 _ _ _ _; first | (guard_hyp hb : ¬ e9 = 0; refine call_q (rbad_c e9) [] cvJrnReadsW3 rfT rfT rfT (fun v h1 n1 hp => ?_); obtain ⟨zb, hzb, rfl, rfl, rfl⟩ := hp; (try (dsimp only [Nat.reduceAdd, bC, bL]))) | (guard_hyp hb : ¬ e8 = 0; refine call_q (rbad_c e8) [] cvJrnReadsW3 rfT rfT rfT (fun v h1 n1 hp => ?_); obtain ⟨zb, hzb, rfl, rfl, rfl⟩ := hp; (try (dsimp only [Nat.reduceAdd, bC, bL]))) | (guard_hyp hb : ¬ e7 = 0; refine call_q (rbad_c e7) [] cvJrnReadsW3 rfT rfT rfT (fun v h1 n1 hp => ?_); obtain ⟨zb, hzb, rfl, rfl, rfl⟩ := hp; (try (dsimp only [Nat.reduceAdd, bC, bL])))) | (guard_hyp mk8 : 1 = 1; guard_target =~ CallOb _ 19 _ _ _ _; clear mk8; have hall := hk.all omT; obtain rfl : n = pn := omT; refine call_q (rsize_q S6 D6 (up_ok hk6 omT) mainN) [(0, some 0)] cvJrnReadsW3 rfT rfT rfT (fun v h1 n1 hp => ?_); obtain ⟨z7, S6, hz7, rfl, rfl, rfl⟩ := hp; have mkC : 1 = 1 := rfl; (try (dsimp only [Nat.reduceAdd, bC, bL]))) | (guard_target =~ CallOb _ 47 _ _ _ _; refine call_q (rcut_c S6 D6 (up_ok hk6 omT) mainN (n : Nat)) [(0, some 0)] cvJrnReadsW3 rfT rfT rfT (fun v h1 n1 hp => ?_); obtain ⟨e7, D7, S7, hc7, rfl, rfl, rfl⟩ := hp; have h7 : (e7, D7) = if ((n : Nat) : Int) < sizeD D6 mainN then cutD D6 mainN (n : Nat) else (0, D6) := (by rw [if_pos omT]; exact hc7); have k7 := cut_okN hk6 mainN (n : Nat); rw [← hc7] at k7; dsimp only at k7; (try (dsimp only [Nat.reduceAdd, bC, bL]))) | (guard_hyp mkC : 1 = 1; guard_target =~ CallOb _ 19 _ _ _ _; clear mkC; first | (guard_hyp k7 : DM.OkN D7 _; refine call_q (rsize_q S7 D7 (up_ok k7 omT) mainN) [(0, some 0)] cvJrnReadsW3 rfT rfT rfT (fun v h1 n1 hp => ?_); obtain ⟨z8, S7, hz8, rfl, rfl, rfl⟩ := hp; (try (dsimp only [Nat.reduceAdd, bC, bL]))) | (have h7 : ((0 : Int), D6) = if ((n : Nat) : Int) < sizeD D6 mainN then cutD D6 mainN (n : Nat) else (0, D6) := (by rw [if_neg omT]); refine call_q (rsize_q S6 D6 (up_ok hk6 omT) mainN) [(0, some 0)] cvJrnReadsW3 rfT rfT rfT (fun v h1 n1 hp => ?_); obtain ⟨z8, S6, hz8, rfl, rfl, rfl⟩ := hp; (try (dsimp only [Nat.reduceAdd, bC, bL])))) | (guard_target =~ CallOb _ 48 _ _ _ _; first | (guard_hyp k7 : DM.OkN D7 _; refine call_q (rsync_c S7 D7 (up_ok k7 omT) mainN) [(0, some 0)] cvJrnReadsW3 rfT rfT rfT (fun v h1 n1 hp => ?_); obtain ⟨e8, D8, S8, hs8, rfl, rfl, rfl⟩ := hp; have k8 := sync_okN k7 mainN; rw [← hs8] at k8; dsimp only at k8; have h8 : (e8, D8) = if sizeD D7 mainN < 0 then (0, D7) else syncD D7 mainN := (by rw [if_neg omT]; exact hs8); (try (dsimp only [Nat.reduceAdd, bC, bL]))) | (refine call_q (rsync_c S6 D6 (up_ok hk6 omT) mainN) [(0, some 0)] cvJrnReadsW3 rfT rfT rfT (fun v h1 n1 hp => ?_); obtain ⟨e8, D8, S8, hs8, rfl, rfl, rfl⟩ := hp; have k8 := sync_okN hk6 mainN; rw [← hs8] at k8; dsimp only at k8; have h8 : (e8, D8) = if sizeD D6 mainN < 0 then (0, D6) else syncD D6 mainN := (by rw [if_neg omT]; exact hs8); (try (dsimp only [Nat.reduceAdd, bC, bL])))) | (guard_target =~ CallOb _ 19 _ _ _ _; first | (guard_hyp k8 : DM.OkN D8 _; refine call_q (rsize_q S8 D8 (up_ok k8 omT) jnN) [(0, some 0)] cvJrnReadsW3 rfT rfT rfT (fun v h1 n1 hp => ?_); obtain ⟨zj, S8, hzj, rfl, rfl, rfl⟩ := hp; (try (dsimp only [Nat.reduceAdd, bC, bL]))) | (guard_hyp k7 : DM.OkN D7 _; refine call_q (rsize_q S7 D7 (up_ok k7 omT) jnN) [(0, some 0)] cvJrnReadsW3 rfT rfT rfT (fun v h1 n1 hp => ?_); obtain ⟨zj, S7, hzj, rfl, rfl, rfl⟩ := hp; (try (dsimp only [Nat.reduceAdd, bC, bL]))) | (guard_hyp hk6 : DM.OkN D6 _; refine call_q (rsize_q S6 D6 (up_ok hk6 omT) jnN) [(0, some 0)] cvJrnReadsW3 rfT rfT rfT (fun v h1 n1 hp => ?_); obtain ⟨zj, S6, hzj, rfl, rfl, rfl⟩ := hp; (try (dsimp only [Nat.reduceAdd, bC, bL]))) | (refine call_q (rsize_q S5 D5 (up_ok hk5 omT) jnN) [(0, some 0)] cvJrnReadsW3 rfT rfT rfT (fun v h1 n1 hp => ?_); obtain ⟨zj, S5, hzj, rfl, rfl, rfl⟩ := hp; (try (dsimp only [Nat.reduceAdd, bC, bL])))) | (guard_target =~ CallOb _ 49 _ _ _ _; (first | (guard_hyp k8 : DM.OkN D8 _; refine call_q (rdrop_c S8 D8 (up_ok k8 omT) jnN) [(0, some 0)] cvJrnReadsW3 rfT rfT rfT (fun v h1 n1 hp => ?_)) | (guard_hyp k7 : DM.OkN D7 _; refine call_q (rdrop_c S7 D7 (up_ok k7 omT) jnN) [(0, some 0)] cvJrnReadsW3 rfT rfT rfT (fun v h1 n1 hp => ?_)) | (guard_hyp hk6 : DM.OkN D6 _; refine call_q (rdrop_c S6 D6 (up_ok hk6 omT) jnN) [(0, some 0)] cvJrnReadsW3 rfT rfT rfT (fun v h1 n1 hp => ?_)) | (refine call_q (rdrop_c S5 D5 (up_ok hk5 omT) jnN) [(0, some 0)] cvJrnReadsW3 rfT rfT rfT (fun v h1 n1 hp => ?_))); obtain ⟨eg, Dg, Sg, hdg, rfl, rfl, rfl⟩ := hp; (try (dsimp only [Nat.reduceAdd, bC, bL]))) | (with_reducible first | refine chk_in (Nat.ble_eq_true_of_le omT) ?_ | (refine ifB_in ?_ ?_ <;> intro hb <;> (try simp only [bN1, bN2, bN3, bN4, bN5, bN6, bN7, bN8, bN9, bN0] at hb) <;> (try (exfalso; omega))) | refine ⟨_, w64b _, ?_⟩ | refine ⟨_, w64 omT omT, ?_⟩ | refine ⟨_, wu64 omT omT, ?_⟩ | refine ⟨_, wu8 omT omT, ?_⟩ | refine ⟨_, w64 szT szT, ?_⟩ | refine ⟨_, rfl, ?_⟩ | refine ⟨rfl, ?_⟩) | intro cap | (with_reducible refine ⟨trivial, ?_⟩) | (guard_target =~ (planChk _ _ = true) ∧ _; refine ⟨by kernel_rfl, ?_⟩) | (guard_target =~ (_ ∧ _) ∧ _; refine ⟨by ((repeat (first | exact trivial | refine ⟨rfl, ?_⟩)); (first | done | fail)), ?_⟩) | refine ⟨by omega, ?_⟩ | refine ⟨szT, ?_⟩ | refine ⟨0, rfl, ?_⟩ | refine ⟨1, rfl, ?_⟩ | refine ⟨2, rfl, ?_⟩ | refine ⟨3, rfl, ?_⟩ | refine ⟨4, rfl, ?_⟩ | refine ⟨5, rfl, ?_⟩ | (refine cell_at1 (by assumption) ?_) | (refine cell_in1 omT (fun x hx => ?_)) | fail)) <;> (try (conv => whnf))
 all_goals first
  | (exfalso; omega)
  | (guard_hyp hb : ¬ e5 = 0; (refine Ends.go ((e5, D5, S5)) ?_ [(0, some 0)] (Fit.q cvJrnReadsW3 (by rfl) (by rfl))); exact back_err hr5 hb)
  | (guard_hyp hb : ¬ c.1 = _; (refine Again.go ((i + 1 : Nat)) ?_ (by (try dsimp only); omega) [(0, some 0), (61, some 61)] (Sub.q cvJrnReadsW3 (by rfl) (by rfl))); refine ⟨by omega, fun x hx => ?_⟩; rw [List.take_add_one, hci] at hx; rcases List.mem_append.1 hx with h | h; exact hi.2 x h; (have : x = c := by simpa using h); rw [this]; exact hb)
  | (guard_hyp hb : e9 = 0; (refine Again.go ((⟨n + 1, D9, S9⟩ : OBK)) ?_ (by (try dsimp only); omega) [(0, some 0), (61, some 61)] (Sub.q cvJrnReadsW3 (by rfl) (by rfl))); exact hp1 hb)
  | (guard_hyp hb : ¬ e9 = 0; (refine Ends.go ((zb, D9, S9)) ?_ [(0, some 0)] (Fit.q cvJrnReadsW3 (by rfl) (by rfl))); dsimp only; rw [hzb]; exact (back_any hr5 hl5 (res_write (hp2 hb) hb)).1 hb)
  | (guard_target =~ Again _ _ _ _ _ _ _ _ _; (refine Again.go ((⟨n + 1, D6, S6⟩ : OBK)) ?_ (by (try dsimp only); omega) [(0, some 0), (61, some 61)] (Sub.q cvJrnReadsW3 (by rfl) (by rfl))); exact hk.skip (by omega) (fun c hc => hi.2 c (by rw [List.take_of_length_le (by omega)]; exact hc)))
  | (guard_hyp hb : ¬ e8 = 0; (refine Ends.go ((zb, D8, S8)) ?_ [(0, some 0)] (Fit.q cvJrnReadsW3 (by rfl) (by rfl))); dsimp only; rw [hzb]; first
   | exact (back_any hr5 hl5 ((res_rest hall h7).2 ‹e7 = 0› h8)).1 hb
   | exact (back_any hr5 hl5 ((res_rest hall h7).2 rfl h8)).1 hb)
  | (guard_hyp hb : ¬ e7 = 0; (refine Ends.go ((zb, D7, S7)) ?_ [(0, some 0)] (Fit.q cvJrnReadsW3 (by rfl) (by rfl))); dsimp only; rw [hzb]; exact (back_any hr5 hl5 ((res_rest (e8 := 0) (D8 := D7) hall h7).1 hb)).1 hb)
  | (guard_hyp hdg : (eg, Dg) = dropD _ _; (refine Ends.go ((eg, Dg, Sg)) ?_ [(0, some 0)] (Fit.q cvJrnReadsW3 (by rfl) (by rfl))); dsimp only; have hgg := gon_yes (by omega) hdg; first
   | (guard_hyp hr5 : ((e5, pg, sr, false), D5) = _; exact back_none hr5 ‹e5 = 0› hgg)
   | exact (back_any hr5 hl5 ((res_rest hall h7).2 ‹e7 = 0› h8)).2 ‹e8 = 0› _ _ hgg
   | exact (back_any hr5 hl5 ((res_rest hall h7).2 rfl h8)).2 ‹e8 = 0› _ _ hgg
   | exact (back_any hr5 hl5 ((res_rest (e8 := 0) (D8 := D7) hall h7).2 ‹e7 = 0› (by rw [if_pos (by omega)]))).2 rfl _ _ hgg
   | exact (back_any hr5 hl5 ((res_rest (e8 := 0) (D8 := D6) hall h7).2 rfl (by rw [if_pos (by omega)]))).2 rfl _ _ hgg)
  | (guard_hyp hr5 : ((e5, pg, sr, false), D5) = _; (refine Ends.go ((0, D5, S5)) ?_ [(0, some 0)] (Fit.q cvJrnReadsW3 (by rfl) (by rfl))); exact back_none hr5 ‹e5 = 0› (gon_no (D := D5) (by omega)))
  | (guard_hyp k8 : DM.OkN D8 _; (refine Ends.go ((0, D8, S8)) ?_ [(0, some 0)] (Fit.q cvJrnReadsW3 (by rfl) (by rfl))); dsimp only; have hgg := gon_no (D := D8) (by omega); first
   | exact (back_any hr5 hl5 ((res_rest hall h7).2 ‹e7 = 0› h8)).2 ‹e8 = 0› _ _ hgg
   | exact (back_any hr5 hl5 ((res_rest hall h7).2 rfl h8)).2 ‹e8 = 0› _ _ hgg)
  | (guard_hyp k7 : DM.OkN D7 _; (refine Ends.go ((0, D7, S7)) ?_ [(0, some 0)] (Fit.q cvJrnReadsW3 (by rfl) (by rfl))); dsimp only; exact (back_any hr5 hl5 ((res_rest (e8 := 0) (D8 := D7) hall h7).2 ‹e7 = 0› (by rw [if_pos (by omega)]))).2 rfl _ _ (gon_no (D := D7) (by omega)))
  | ((refine Ends.go ((0, D6, S6)) ?_ [(0, some 0)] (Fit.q cvJrnReadsW3 (by rfl) (by rfl))); dsimp only; exact (back_any hr5 hl5 ((res_rest (e8 := 0) (D8 := D6) hall h7).2 rfl (by rw [if_pos (by omega)]))).2 rfl _ _ (gon_no (D := D6) (by omega)))
  | trace_state
end Go.Proofs.YtelolcagncgfpaaGreat
namespace Go.Proofs.YtelolcagncgfpaaGreat
open Go.RowKit
set_option linter.unusedSimpArgs false
set_option linter.unusedVariables false
theorem close_256 {k n : Int} {s : Nat} {d : ByteArray} (h : closeE k n d = 0) : (closeS k n s d).size = 256 := by
 unfold closeE at h
 split at h
 · rename_i hok
   obtain ⟨h1, h2, h3⟩ := sealOk_iff.1 hok
   exact (closed_ok h1 h2 (by rw [← bytesOf_length]; exact h3)).2
 · exact absurd h (by decide)
abbrev SeT := Int × Int × Int × ByteArray
abbrev seV (y : SeT) : List Value := [iv y.1, iv y.2.1, .int .u64 y.2.2.1, .string y.2.2.2]
structure SeOk (y : SeT) : Prop where
 s : U64 y.2.2.1
 d : y.2.2.2.size ≤ maxLen
structure TE where
 i : Nat
 t : ByteArray
theorem load_okN2 {D D' : DM} {n : Int} (h : D.OkN n) {s t : ByteArray} {a : Int} (hl : (a, D') = loadD D s t) : D'.OkN n := by
 have := load_okN h s t
 rw [← hl] at this
 exact this
attribute [local irreducible] numOf fixedL bytesOf strOf strEq strLt sfrom padL closeS closeE layD footS writeD sizeD syncD cutD dropD readD loadD findJ foundJ gonJ restoreD firstM BackR newD bytesD pgS eqPg
theorem r_full (s : ByteArray) (hs : s.size ≤ maxLen) (w : World) :
 Calls Tryz.prog 5 #[.string s] w fun e w' => e = .returned (.string (strOf (padL (bytesOf s)))) ∧ Below w.heap.size w w' := by
 have hl := bytesOf_length s
 unfold maxLen at hs
 refine calls_pure tabOk mixed Tryz.func5 rfl [] [.string s] rfl (Nat.le_of_ble_eq_true rfl) rfl ?_ w
 (repeat' ((try (conv => whnf)); first | (guard_target =~ ∃ (_ : Value), ∃ (_ : HP), ∃ (_ : HP), _; refine ⟨_, _, _, rnJrnReadsW4, ?_⟩; (try (dsimp only [Nat.reduceAdd, bC, bL]))) | (with_reducible refine ⟨232 - s.size, 232 - s.size, by omega, by omega, Nat.le_refl _, by omega, by omega, ?_⟩) | (with_reducible refine ⟨List.replicate (232 - s.size) 0, noughts_take _ _ _ _, List.length_replicate, ?_⟩) | (with_reducible first | refine chk_in (Nat.ble_eq_true_of_le omT) ?_ | (refine ifB_in ?_ ?_ <;> intro hb <;> (try simp only [bN1, bN2, bN3, bN4, bN5, bN6, bN7, bN8, bN9, bN0] at hb) <;> (try (exfalso; omega))) | refine ⟨_, w64b _, ?_⟩ | refine ⟨_, w64 omT omT, ?_⟩ | refine ⟨_, wu64 omT omT, ?_⟩ | refine ⟨_, wu8 omT omT, ?_⟩ | refine ⟨_, w64 szT szT, ?_⟩ | refine ⟨_, rfl, ?_⟩ | refine ⟨rfl, ?_⟩) | intro cap | (with_reducible refine ⟨trivial, ?_⟩) | (guard_target =~ (planChk _ _ = true) ∧ _; refine ⟨by kernel_rfl, ?_⟩) | (guard_target =~ (_ ∧ _) ∧ _; refine ⟨by ((repeat (first | exact trivial | refine ⟨rfl, ?_⟩)); (first | done | fail)), ?_⟩) | refine ⟨by omega, ?_⟩ | refine ⟨szT, ?_⟩ | refine ⟨0, rfl, ?_⟩ | refine ⟨1, rfl, ?_⟩ | refine ⟨2, rfl, ?_⟩ | refine ⟨3, rfl, ?_⟩ | refine ⟨4, rfl, ?_⟩ | refine ⟨5, rfl, ?_⟩ | (refine cell_at1 (by assumption) ?_) | (refine cell_in1 omT (fun x hx => ?_)) | fail)) <;> (try (conv => whnf))
 · refine congrArg Value.string ?_
   unfold padL
   rw [← bytesOf_inj, bytesOf_strOf, bytesOf_extract, show 232 - (bytesOf s).length = 0 by omega]
   simp
 · refine congrArg Value.string ?_
   unfold padL
   rw [← bytesOf_inj, bytesOf_strOf, bytesOf_append, bytesOf_strOf, hl, List.take_of_length_le (by omega)]
theorem cvJrnReadsW5 {p : Prop} (h : p := by have nw := True.intro; (repeat' (first | exact True.intro | (with_reducible exact rfl) | (with_reducible exact AbsLe.refl) | (guard_target =~ @Eq Nat _ _; first | exact rfl | omega) | (guard_target =~ List.map _ _ = []; exact rfl) | (first | (guard_target =~ @Eq (List Value) _ _; exact rfl) | exact covL_of rfl (flat_bind (f := seV) (fun _ => rfl) _) | exact covL_of rfl (flat_bind (f := pgv) (fun _ => rfl) _) | first | exact covL_still rfl hvs | exact covL_still rfl (still_map (fun _ => rfl) _) | exact covL_still rfl (still_map ro_still _) | (apply covL_set <;> (try clear nw) <;> have nw := True.intro) | exact congrArg (Value.int _) (by (try dsimp only); omega)) | (exact congrArg (Value.int _) (by omega)) | (exact covL_flat (flat_map (fun _ => rfl) _)) | (exact covL_flat flat_nil) | (refine covP_all ?_; (try clear nw); have nw := True.intro) | (refine covL_each ?_; (try clear nw); have nw := True.intro) | (refine ⟨?_, ?_⟩ <;> (try clear nw) <;> have nw := True.intro) | (guard_hyp nw : True; ((conv => whnf) <;> clear nw)))); (first | done | fail)) : p := h
theorem rnJrnReadsW6 {p : Prop} (h : p := by refine ⟨?_, ?_, ?_⟩; (first | apply rR_tuple | apply rR_one rfl | exact rfl); all_goals (repeat' (first | (with_reducible (first | exact relH_nil | apply rn_lst | apply rn_own | apply rn_mp | apply rn_row | apply rn_abs | exact wo_nil)) | apply wo_keep rfl | apply wo_drop rfl | exact relH_nil | exact r1_flat rfl | exact r0_flat rfl | exact rl_nil | exact wo_nil | exact bk_old rfl | exact bk_new rfl | exact bk_nil rfl | apply rl_cons | (first | exact relL_flat (flat_bind (f := seV) (fun _ => rfl) _) | exact relL_flat (flat_bind (f := pgv) (fun _ => rfl) _) | first | exact relL_still hvs | exact relL_still (still_map (fun _ => rfl) _) | exact relL_still (still_map ro_still _) | exact relL_flat (flat_map (fun _ => rfl) _) | apply relL_set) | exact relL_flat (flat_map (fun _ => rfl) _) | exact relL_flat flat_nil | apply relL_to | apply rn_lst | apply rn_own | apply rn_mp | apply rn_row | apply relH_view rfl | apply relH_lview rfl | apply relH_fact rfl | exact r1_rig | exact r0_rig | exact r1_rigs | exact r0_rigs | apply wo_keep rfl | apply wo_drop rfl | apply r1_agg | apply rn_ptr | apply rn_slice | apply rn_slice0 | apply rn_iface | apply rn_map | apply rn_ifacem | apply r0_map | apply r0_ifacem | apply r0_ptr | apply r0_slice | apply r0_slice0 | apply r0_iface)); (first | done | fail)) : p := h
theorem jsame_c (l : List Pg) (ca cb : Nat) (hl : l.length ≤ 4611686018427387904) :
 CallOb Tryz.prog 13 [mslice 0 l.length ca, mslice 1 l.length cb] [(0, .lview (l.flatMap pgv)), (1, .lview (l.flatMap pgv))] 2 (fun v h m => ∃ z : Bool, z = true ∧ v = .bool z ∧ h = [] ∧ m = 2) := by
 refine call_spec tabOk mixed Tryz.call13 Tryz.func13 rfl [(6, [(0, true), (1, true), (2, true), (3, true), (4, true), (5, true), (6, true), (7, true), (8, true)])] (fun z : Bool => z = true) (fun z => .bool z) (fun _ => []) (fun _ => 2) ?_ ?_
 · exact (Nat.le_of_ble_eq_true rfl)
 (repeat' ((try (conv => whnf)); first | (guard_target =~ ∃ (_ : Value), ∃ (_ : HP), ∃ (_ : HP), _; refine ⟨_, _, _, rnJrnReadsW6, ?_⟩; (try (dsimp only [Nat.reduceAdd, bC, bL]))) | (guard_target =~ LoopOb _ _ _ _ _ _ _ _; refine loop_rule tabOk mixed [(6, [(0, true), (1, true), (2, true), (3, true), (4, true), (5, true), (6, true), (7, true), (8, true)])] 2 (fun k => [(0, mslice 0 l.length ca), (1, mslice 1 l.length cb), (5, iv (k : Nat))]) (fun k => [(0, .lview (l.flatMap pgv)), (1, .lview (l.flatMap pgv))]) (fun k => l.length - k) (fun k => k ≤ l.length) (0) (Nat.zero_le _) ⟨[], Sub.q cvJrnReadsW5 (by rfl) (by rfl)⟩ (fun k hk => ?_)) | (guard_target =~ ∃ (_ : Nat), _ ∧ _; refine ⟨k, by omega, by omega, ?_⟩) | (guard_hyp hs : l[k]? = some s; refine onS_in (sub_flat (f := pgv) (n := 2) (fun _ => rfl) hs omT) ?_) | (obtain ⟨s, hs⟩ : ∃ s, l[k]? = some s := ⟨_, List.getElem?_eq_getElem (show k < l.length by omega)⟩; refine onS_in (sub_flat (f := pgv) (n := 2) (fun _ => rfl) hs omT) ?_) | (guard_target =~ ∃ b, EqOb _ _ _ _ b ∧ _; refine ⟨_, ob_pg _ _ _ _, ?_⟩; rw [eqPg_self]) | (with_reducible first | refine chk_in (Nat.ble_eq_true_of_le omT) ?_ | (refine ifB_in ?_ ?_ <;> intro hb <;> (try simp only [bN1, bN2, bN3, bN4, bN5, bN6, bN7, bN8, bN9, bN0] at hb) <;> (try (exfalso; omega))) | refine ⟨_, w64b _, ?_⟩ | refine ⟨_, w64 omT omT, ?_⟩ | refine ⟨_, wu64 omT omT, ?_⟩ | refine ⟨_, wu8 omT omT, ?_⟩ | refine ⟨_, w64 szT szT, ?_⟩ | refine ⟨_, rfl, ?_⟩ | refine ⟨rfl, ?_⟩) | intro cap | (with_reducible refine ⟨trivial, ?_⟩) | (guard_target =~ (planChk _ _ = true) ∧ _; refine ⟨by kernel_rfl, ?_⟩) | (guard_target =~ (_ ∧ _) ∧ _; refine ⟨by ((repeat (first | exact trivial | refine ⟨rfl, ?_⟩)); (first | done | fail)), ?_⟩) | refine ⟨by omega, ?_⟩ | refine ⟨szT, ?_⟩ | refine ⟨0, rfl, ?_⟩ | refine ⟨1, rfl, ?_⟩ | refine ⟨2, rfl, ?_⟩ | refine ⟨3, rfl, ?_⟩ | refine ⟨4, rfl, ?_⟩ | refine ⟨5, rfl, ?_⟩ | (refine cell_at1 (by assumption) ?_) | (refine cell_in1 omT (fun x hx => ?_)) | fail)) <;> (try (conv => whnf))
 all_goals first
  | (exfalso; exact hb trivial)
  | ((refine Again.go ((k + 1 : Nat)) ?_ (by (try dsimp only); omega) [] (Sub.q cvJrnReadsW5 (by rfl) (by rfl))); omega)
  | ((refine Ends.go (true) ?_ [] (Fit.q cvJrnReadsW5 (by rfl) (by rfl))); rfl)
  | (exfalso; simp_all [eqPg, strEq_self])
  | trace_state
set_option maxRecDepth 100000 in
set_option maxHeartbeats 16000000 in
theorem journalReads_c (L : List SeT) (cap : Nat) (sp : Int) (mn : ByteArray) (hL : ∀ y ∈ L, SeOk y) (hl : L.length ≤ 4611686018427387904) :
 CallOb Tryz.prog 3 [mslice 0 L.length cap, iv sp, .string mn] [(0, .lview (L.flatMap seV))] 1 (fun v h m => ∃ z : Bool, z = true ∧ v = .bool z ∧ h = [] ∧ m = 1) := by
 refine call_spec tabOk mixed Tryz.call3 Tryz.func3 rfl [] (fun z : Bool => z = true) (fun z => .bool z) (fun _ => []) (fun _ => 1) ?_ ?_
 · exact (Nat.le_of_ble_eq_true rfl)
 (repeat' ((try (conv => whnf)); first | (guard_target =~ ∃ (_ : Value), ∃ (_ : HP), ∃ (_ : HP), _; refine ⟨_, _, _, rnJrnReadsW6, ?_⟩; (try (dsimp only [Nat.reduceAdd, bC, bL]))) | (guard_hyp h256 : es = 0 → _; have hcz := h256 ‹es = 0›; clear h256) | (guard_target =~ CallOb _ 4 _ _ _ _; refine call_q awakeJ_c [] cvJrnReadsW5 rfT rfT rfT (fun v h1 n1 hp => ?_); obtain ⟨_, rfl, rfl, rfl, rfl⟩ := hp; have mkA : 1 = 1 := rfl; (try (dsimp only [Nat.reduceAdd, bC, bL]))) | (guard_hyp mkA : 1 = 1; guard_target =~ LoopOb _ _ _ _ _ _ _ _; clear mkA; refine loop_join tabOk mixed [] 1 (fun k : TE => [(0, mslice 0 L.length cap), (1, iv sp), (2, .string mn), (7, .string k.t), (8, iv (k.i : Nat))]) (fun k => [(0, .lview (L.flatMap seV))]) (fun k => 12 - k.i) (fun k => k.i ≤ 12 ∧ k.t.size = 256 * k.i) ⟨0, ⟨#[]⟩⟩ 0 1 (fun x : ByteArray => [(2, .string mn), (7, .string x)]) (fun x => []) (fun x => x.size ≤ 3072) ⟨Nat.zero_le _, rfl⟩ ⟨[], Sub.q cvJrnReadsW5 (by rfl) (by rfl)⟩ (fun k hk => ?_) (fun x hx => ?_)) | (guard_hyp k : TE; rcases k with ⟨i, t⟩; dsimp only at hk ⊢; obtain ⟨hki, hkt⟩ := hk; have mk1 : 1 = 1 := rfl) | (guard_target =~ ∃ (_ : Nat), _ ∧ _; guard_hyp mk1 : 1 = 1; clear mk1; obtain ⟨y, hyi⟩ : ∃ y, L[i]? = some y := ⟨_, List.getElem?_eq_getElem (show i < L.length by omega)⟩; have hok := hL y (List.mem_of_getElem? hyi); obtain ⟨kd, nm, st, da⟩ := y; have hst : U64 st := hok.s; have hda : da.size ≤ maxLen := hok.d; refine ⟨i, by omega, by omega, ?_⟩) | (guard_hyp hyi : L[i]? = some _; refine onS_in (sub_flat (f := seV) (n := 4) (fun _ => rfl) hyi omT) ?_) | (guard_target =~ CallOb _ 5 _ _ _ _; (with_reducible refine call_pure Tryz.call5 (fun w => r_full _ hda w) ?_ ?_ ?_); exact rfl; exact rfl) | (guard_target =~ CallOb _ 6 _ _ _ _; obtain ⟨es, hes⟩ : ∃ es, es = closeE kd nm (strOf (padL (bytesOf da))) := ⟨_, rfl⟩; obtain ⟨cs, hcs⟩ : ∃ cs, cs = closeS kd nm st.toNat (strOf (padL (bytesOf da))) := ⟨_, rfl⟩; have hcl := fun w => rclose_any kd nm st (strOf (padL (bytesOf da))) w hst; rw [← hcs, ← hes] at hcl; have h256 : es = 0 → cs.size = 256 := (fun h => by rw [hcs]; exact close_256 (hes.symm.trans h)); (guard_target =~ CallOb _ 6 _ _ _ _; (with_reducible refine call_pure Tryz.call6 (hcl) ?_ ?_ ?_); exact rfl; exact rfl)) | (guard_hyp hcz : _; guard_target =~ ∃ (_ : Nat), _ ∧ _; refine ⟨1, by omega, by omega, ?_⟩) | (guard_hyp hcz : _; guard_target =~ _ ≤ _ ∧ _; refine ⟨by (simp only [size_sfrom, ByteArray.size_extract, ByteArray.size_append, strOf_size, fixedL_length, lit_size, List.size_toArray, List.length_cons, List.length_nil, List.length_append, List.length_replicate]; omega), ?_⟩) | (guard_target =~ CallOb _ 7 _ _ _ _; refine call_q (new_c 200 (by decide)) [] cvJrnReadsW5 rfT rfT rfT (fun v h1 n1 hp => ?_); obtain ⟨D0, S0, hD0, rfl, rfl, rfl⟩ := hp; have k0 : D0.OkN 0 := hD0 ▸ new_okN 200; (try (dsimp only [Nat.reduceAdd, bC, bL]))) | (guard_target =~ CallOb _ 8 _ _ _ _; refine call_q (rnew_k 200 (by decide)) [] cvJrnReadsW5 rfT rfT rfT (fun v h1 n1 hp => ?_); obtain ⟨D1, T0, hD1, rfl, rfl, rfl⟩ := hp; obtain rfl : D0 = D1 := hD0.trans hD1.symm; have mk2 : 1 = 1 := rfl; (try (dsimp only [Nat.reduceAdd, bC, bL]))) | (guard_target =~ CallOb _ 9 _ _ _ _; first | (guard_hyp mk2 : 1 = 1; refine call_q (load_c S0 D0 (up_ok k0 (by decide)) jnN x) [(0, some _)] cvJrnReadsW5 rfT rfT rfT (fun v h1 n1 hp => ?_); obtain ⟨ea, Da, Sa, hra, rfl, rfl, rfl⟩ := hp; have ka := load_okN2 k0 hra; (try (dsimp only [Nat.reduceAdd, bC, bL]))) | (refine call_q (load_c Sa Db (up_ok ka (by decide)) mainN mn) [(0, some _)] cvJrnReadsW5 rfT rfT rfT (fun v h1 n1 hp => ?_); obtain ⟨ec, Dc, Sa, hrc, rfl, rfl, rfl⟩ := hp; have kc := load_okN2 ka hrc; (try (dsimp only [Nat.reduceAdd, bC, bL])))) | (guard_target =~ CallOb _ 10 _ _ _ _; first | (guard_hyp mk2 : 1 = 1; clear mk2; refine call_q (rload_c T0 D0 (up_ok k0 (by decide)) jnN x) [(0, some _)] cvJrnReadsW5 rfT rfT rfT (fun v h1 n1 hp => ?_); obtain ⟨eb, Db, Ta, hrb, rfl, rfl, rfl⟩ := hp; obtain rfl : Db = Da := congrArg Prod.snd (hrb.trans hra.symm); (try (dsimp only [Nat.reduceAdd, bC, bL]))) | (refine call_q (rload_c Ta Db (up_ok ka (by decide)) mainN mn) [(0, some _)] cvJrnReadsW5 rfT rfT rfT (fun v h1 n1 hp => ?_); obtain ⟨ed, Dd, Ta, hrd, rfl, rfl, rfl⟩ := hp; obtain rfl : Dd = Dc := congrArg Prod.snd (hrd.trans hrc.symm); (try (dsimp only [Nat.reduceAdd, bC, bL])))) | (guard_target =~ CallOb _ 11 _ _ _ _; (first | (guard_hyp kc : DM.OkN Dd _; have kk := kc; refine call_q (find_c Sa Dd kc (by decide)) [(0, some 1)] cvJrnReadsW5 rfT rfT rfT (fun v h1 n1 hp => ?_)) | (have kk := ka; refine call_q (find_c Sa Db ka (by decide)) [(0, some 1)] cvJrnReadsW5 rfT rfT rfT (fun v h1 n1 hp => ?_))); obtain ⟨⟨⟨e1, pg1, sr1, is1⟩, D3, S3, cp1⟩, ⟨hr1, hcp1⟩, rfl, rfl, rfl⟩ := hp; dsimp only at hr1 hcp1; have k3 := foundJ_okN kk (by decide); have g3 := foundJ_good kk (by decide); rw [← hr1] at k3 g3; dsimp only at k3 g3; (try (dsimp only [Nat.reduceAdd, bC, bL]))) | (guard_target =~ CallOb _ 12 _ _ _ _; (first | (guard_hyp kc : DM.OkN Dd _; refine call_q (rfind_c Ta Dd kc (by decide)) [(0, some _)] cvJrnReadsW5 rfT rfT rfT (fun v h1 n1 hp => ?_)) | (refine call_q (rfind_c Ta Db ka (by decide)) [(0, some _)] cvJrnReadsW5 rfT rfT rfT (fun v h1 n1 hp => ?_))); obtain ⟨⟨⟨e2, pg2, sr2, is2⟩, D4, S4, cp2⟩, ⟨hr2, hcp2⟩, rfl, rfl, rfl⟩ := hp; dsimp only at hr2 hcp2; have hsm := hr2.trans hr1.symm; simp only [Prod.mk.injEq] at hsm; obtain ⟨⟨rfl, rfl, rfl, rfl⟩, rfl⟩ := hsm; (try (dsimp only [Nat.reduceAdd, bC, bL]))) | (guard_target =~ CallOb _ 13 _ _ _ _; refine call_q (jsame_c sr2 _ _ omT) [(0, some _), (1, some _)] cvJrnReadsW5 rfT rfT rfT (fun v h1 n1 hp => ?_); obtain ⟨_, rfl, rfl, rfl, rfl⟩ := hp; (try (dsimp only [Nat.reduceAdd, bC, bL]))) | (guard_target =~ CallOb _ 14 _ _ _ _; refine call_q (back_c restore_ob S3 D4 k3 (by decide)) [(0, some 1)] cvJrnReadsW5 rfT rfT rfT (fun v h1 n1 hp => ?_); obtain ⟨⟨e5, D5, S5⟩, ⟨hr5, k5⟩, rfl, rfl, rfl⟩ := hp; dsimp only at hr5 k5; (try (dsimp only [Nat.reduceAdd, bC, bL]))) | (guard_target =~ CallOb _ 15 _ _ _ _; refine call_q (rback_c S4 D4 k3 (by decide)) [(0, some _)] cvJrnReadsW5 rfT rfT rfT (fun v h1 n1 hp => ?_); obtain ⟨⟨e6, D6, S6⟩, hr6, rfl, rfl, rfl⟩ := hp; dsimp only at hr6; have hee := (backR_fn hr6 hr5).1; have hdd := (backR_fn hr6 hr5).2; clear hr5 hr6; subst hdd; subst hee; (try (dsimp only [Nat.reduceAdd, bC, bL]))) | (guard_target =~ CallOb _ 16 _ _ _ _; refine call_q (bytes_k S5 D6 (up_ok k5 (by decide)) mainN) [(0, some 1)] cvJrnReadsW5 rfT rfT rfT (fun v h1 n1 hp => ?_); obtain ⟨ba, S5, hba, rfl, rfl, rfl⟩ := hp; (try (dsimp only [Nat.reduceAdd, bC, bL]))) | (guard_target =~ CallOb _ 17 _ _ _ _; refine call_q (rbytes_q S6 D6 (up_ok k5 (by decide)) mainN) [(0, some _)] cvJrnReadsW5 rfT rfT rfT (fun v h1 n1 hp => ?_); obtain ⟨bb, S6, hbb, rfl, rfl, rfl⟩ := hp; obtain rfl : bb = ba := hbb.trans hba.symm; (try (dsimp only [Nat.reduceAdd, bC, bL]))) | (guard_target =~ CallOb _ 18 _ _ _ _; first | (refine call_q (size_k S5 D6 (up_ok k5 (by decide)) mainN) [(0, some 1)] cvJrnReadsW5 rfT rfT rfT (fun v h1 n1 hp => ?_); obtain ⟨za, S5, hza, rfl, rfl, rfl⟩ := hp; (try (dsimp only [Nat.reduceAdd, bC, bL]))) | (refine call_q (size_k S5 D6 (up_ok k5 (by decide)) jnN) [(0, some 1)] cvJrnReadsW5 rfT rfT rfT (fun v h1 n1 hp => ?_); obtain ⟨za, S5, hza, rfl, rfl, rfl⟩ := hp; (try (dsimp only [Nat.reduceAdd, bC, bL])))) | (guard_target =~ CallOb _ 19 _ _ _ _; first | (refine call_q (rsize_q S6 D6 (up_ok k5 (by decide)) mainN) [(0, some _)] cvJrnReadsW5 rfT rfT rfT (fun v h1 n1 hp => ?_); obtain ⟨zb, S6, hzb, rfl, rfl, rfl⟩ := hp; obtain rfl : zb = za := hzb.trans hza.symm; (try (dsimp only [Nat.reduceAdd, bC, bL]))) | (refine call_q (rsize_q S6 D6 (up_ok k5 (by decide)) jnN) [(0, some _)] cvJrnReadsW5 rfT rfT rfT (fun v h1 n1 hp => ?_); obtain ⟨zb, S6, hzb, rfl, rfl, rfl⟩ := hp; obtain rfl : zb = za := hzb.trans hza.symm; (try (dsimp only [Nat.reduceAdd, bC, bL])))) | (with_reducible first | refine chk_in (Nat.ble_eq_true_of_le omT) ?_ | (refine ifB_in ?_ ?_ <;> intro hb <;> (try simp only [bN1, bN2, bN3, bN4, bN5, bN6, bN7, bN8, bN9, bN0] at hb) <;> (try (exfalso; omega))) | refine ⟨_, w64b _, ?_⟩ | refine ⟨_, w64 omT omT, ?_⟩ | refine ⟨_, wu64 omT omT, ?_⟩ | refine ⟨_, wu8 omT omT, ?_⟩ | refine ⟨_, w64 szT szT, ?_⟩ | refine ⟨_, rfl, ?_⟩ | refine ⟨rfl, ?_⟩) | intro cap | (with_reducible refine ⟨trivial, ?_⟩) | (guard_target =~ (planChk _ _ = true) ∧ _; refine ⟨by kernel_rfl, ?_⟩) | (guard_target =~ (_ ∧ _) ∧ _; refine ⟨by ((repeat (first | exact trivial | refine ⟨rfl, ?_⟩)); (first | done | fail)), ?_⟩) | refine ⟨by omega, ?_⟩ | refine ⟨szT, ?_⟩ | refine ⟨0, rfl, ?_⟩ | refine ⟨1, rfl, ?_⟩ | refine ⟨2, rfl, ?_⟩ | refine ⟨3, rfl, ?_⟩ | refine ⟨4, rfl, ?_⟩ | refine ⟨5, rfl, ?_⟩ | (refine cell_at1 (by assumption) ?_) | (refine cell_in1 omT (fun x hx => ?_)) | fail)) <;> (try (conv => whnf))
 all_goals first
  | (exfalso; first | exact hb rfl | exact hb trivial | omega | (rw [strEq_self] at hb; cases hb) | (rw [beq_self_eq_true] at hb; cases hb))
  | (guard_hyp hcz : _; (refine Again.go ((⟨i + 1, _⟩ : TE)) ?_ (by (try dsimp only); omega) [] (Sub.q cvJrnReadsW5 (by rfl) (by rfl))); exact ⟨by dsimp only; omega, by dsimp only; (simp only [size_sfrom, ByteArray.size_extract, ByteArray.size_append, strOf_size, fixedL_length, lit_size, List.size_toArray, List.length_cons, List.length_nil, List.length_append, List.length_replicate]; omega)⟩)
  | ((refine Gone.go (t) ?_ [] (Sub.q cvJrnReadsW5 (by rfl) (by rfl))); (try dsimp only); omega)
  | (guard_hyp hza : _; (refine Ends.go (_) ?_ [] (Fit.q cvJrnReadsW5 (by rfl) (by rfl))); first | rfl | exact decide_eq_true rfl | (simp [strEq_self]))
  | ((refine Ends.go (true) ?_ [] (Fit.q cvJrnReadsW5 (by rfl) (by rfl))); rfl)
  | trace_state
namespace journalReads
theorem walk (v : Value) (cap : Nat) (L : List SeT) (a1 : Int) (a2 : ByteArray) (w : World) (S : SlcAt w v L.length cap (L.flatMap (fun y : Int × Int × Int × ByteArray => [.int .i64 y.1, .int .i64 y.2.1, .int .u64 y.2.2.1, .string y.2.2.2]))) (hq : L.length ≤ cap) (hb : cap ≤ 140737488351232)
 (hw : ∀ y ∈ L, (fun y : Int × Int × Int × ByteArray => (Lit.int .i64 y.1).wf = true ∧ (Lit.int .i64 y.2.1).wf = true ∧ (Lit.int .u64 y.2.2.1).wf = true ∧ y.2.2.2.size ≤ maxLen) y) (w1 : (Lit.int .i64 a1).wf = true) (_b2 : a2.size ≤ 140737488351232) :
 Calls Tryz.prog 3 #[v, .int .i64 a1, .string a2] w fun e w' => e = .returned (.bool true) ∧ Below w.heap.size w w' := by
 obtain ⟨m, _, H, hm, hv⟩ := (HRel.start w).see (fun i it e => by cases e) S (flat_bind (f := seV) (fun _ => rfl) L)
 exact law_of (cs := [v, .int .i64 a1, .string a2]) (journalReads_c L cap a1 a2 (fun y hy => ⟨by have := bounds_u64 (hw y hy).2.2.1; exact ⟨by omega, by omega⟩, (hw y hy).2.2.2⟩) (by omega)) (H.sub_of (h' := [(0, .lview (L.flatMap seV))]) fun i it e => by
  have := lkH_mem e
  simp only [List.mem_cons, Prod.mk.injEq, List.not_mem_nil, or_false] at this
  obtain ⟨rfl, rfl⟩ := this
  rfl) ⟨(VR.of0 rfl).2 hv, VR.same rfl, VR.same rfl, trivial⟩ (fun v hh m ⟨_, hz, h, _⟩ => by rw [h, hz])
end journalReads
end Go.Proofs.YtelolcagncgfpaaGreat
