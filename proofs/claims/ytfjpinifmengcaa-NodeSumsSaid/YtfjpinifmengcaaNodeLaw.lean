/- What the laws on nodes share: their arguments in memory. -/
import Derived.Test.YtfjpinifmengcaaNodeAwake
namespace Go.Proofs.Ytfjpinifmengcaa
open Go.RowKit
set_option linter.unusedSimpArgs false
set_option linter.unusedVariables false
theorem tf_no {z : Bool} (h : z = true) (h2 : z = false) : False := by rw [h] at h2; cases h2
theorem se_no {a : ByteArray} (h : strEq a a = false) : False := by rw [strEq_self] at h; cases h
theorem be_no {a : Bool} (h : (a == a) = false) : False := by simp at h
abbrev ndT (lf : Bool) (v1 v2 v3 : Value) : Value := .agg #[.bool lf, v1, v2, v3]
/-- A node that came in, as the laws see it. -/
theorem see_node {w : World} {lf : Bool} {v1 v2 v3 : Value} {c1 c2 c3 : Nat} {L1 : List ByteArray} {L2 : List Cel} {L3 : List Int}
    (S1 : SlcAt w v1 L1.length c1 (L1.flatMap (fun y : ByteArray => [.string y]))) (S2 : SlcAt w v2 L2.length c2 (L2.flatMap (fun y : Cel => [.int .i64 y.1, .string y.2.1, .int .i64 y.2.2]))) (S3 : SlcAt w v3 L3.length c3 (L3.flatMap (fun y : Int => [.int .i64 y]))) :
    ∃ m, HRel (fun _ => False) w.heap.size w m (ndH ⟨lf, L1, L2, L3⟩ 0 1 2) 3 w ∧ VR m (.agg (ndVs ⟨lf, L1, L2, L3⟩ 0 1 2 c1 c2 c3).toArray) (ndT lf v1 v2 v3) := by
  rw [flatMap_one] at S1 S3
  obtain ⟨m1, hl1, H1, hm1, hv1⟩ := (HRel.start w).see (fun i it e => by cases e) S1 (flat_map (fun _ => rfl) L1)
  obtain ⟨m2, hl2, H2, hm2, hv2⟩ := H1.see hm1 S2 (flat_bindF (f := celv) (fun _ => rfl) L2)
  obtain ⟨m3, hl3, H3, hm3, hv3⟩ := H2.see hm2 S3 (flat_map (fun _ => rfl) L3)
  refine ⟨m3, H3.sub_of (fun i it e => ?_), ?_⟩
  · match i, e with
    | 0, e => exact e
    | 1, e => exact e
    | 2, e => exact e
    | k + 3, e => cases e
  · exact ⟨[.bool lf, v1, v2, v3], ⟨(V0.flat rfl).2 rfl, (hv1.mono hl2).mono hl3, hv2.mono hl3, hv3, trivial⟩, rfl⟩
end Go.Proofs.Ytfjpinifmengcaa
