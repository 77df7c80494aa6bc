/- The program's variables as the rows list them: what stands at their blocks. -/
import Derived.Test.YtdiacjlnedccpaaDoorValParse
import Derived.Test.YtdiacjlnedccpaaDoorRows
import Derived.Stop.LaidErr
import Derived.Lib.LaidTab
import Derived.LaidMore
namespace Go.Proofs.YtdiacjlnedccpaaDoor
open Go.RowKit
set_option linter.unusedSimpArgs false
set_option linter.unusedVariables false
theorem var_at {name : String} {g : Nat} (hg : Tryd.prog.globalNamed name = some g) {W : World} {cs : Array Value} (hv : W.var? Tryd.prog name = some cs) : ∃ o, W.heap[g]? = some o ∧ ∀ w : World, w.heap[g]? = some o → w.var? Tryd.prog name = some cs := by
  unfold World.var? at hv
  simp only [hg, Option.bind_some] at hv
  cases h : W.heap[g]? with
  | none => rw [h] at hv; cases hv
  | some o =>
    refine ⟨o, rfl, fun w hw => ?_⟩
    unfold World.var?
    simp only [hg, Option.bind_some]
    rw [hw]; rw [h] at hv; exact hv
theorem star_err : Tryd.prog.typeName? 3 115 = some "*errors.errorString" := by kernel_rfl
theorem row_err (u : TypeId) (h : Tryd.prog.typeName? 3 u = some "*errors.errorString") : u = 115 :=
  typeName_ptr_named (nm := "errors.errorString") (by kernel_rfl) (by kernel_rfl) (by decide) u h
/-- The three variables, as the rows list them. -/
structure Glob (W : World) where
  gP : Nat
  gR : Nat
  gS : Nat
  oP : Obj
  oR : Obj
  oS : Obj
  hP : PowAt gP oP
  hR : ErrAt "strconv.ErrRange" gR oR
  hS : ErrAt "strconv.ErrSyntax" gS oS
  wP : W.heap[gP]? = some oP
  wR : W.heap[gR]? = some oR
  wS : W.heap[gS]? = some oS
theorem glob_of {W : World} (h1 : Lib.TabIs Tryd.prog W "internal/strconv.uint64pow10" .u64 Lib.pow10Tab) (h2 : ∃ tp p, W.var? Tryd.prog "strconv.ErrRange" = some #[.iface tp p]) (h3 : ∃ tp p, W.var? Tryd.prog "strconv.ErrSyntax" = some #[.iface tp p]) : Nonempty (Glob W) := by
  obtain ⟨t2, p2, h2⟩ := h2
  obtain ⟨t3, p3, h3⟩ := h3
  obtain ⟨oP, wP, vP⟩ := var_at (g := 3) (by kernel_rfl) h1
  obtain ⟨oR, wR, vR⟩ := var_at (g := 5) (by kernel_rfl) h2
  obtain ⟨oS, wS, vS⟩ := var_at (g := 4) (by kernel_rfl) h3
  exact ⟨⟨3, 5, 4, oP, oR, oS, fun w hw => vP w hw, fun w hw => ⟨t2, p2, vR w hw⟩, fun w hw => ⟨t3, p3, vS w hw⟩, wP, wR, wS⟩⟩
theorem laid_glob {W : World} (h0 : laidMetH Tryd.prog Rows.valueOrderRow.laid W) : Nonempty (Glob W) := by
  rw [MakeChecks.laidMetH_plain _ _ _ (by kernel_rfl)] at h0
  have h : laidMet Tryd.prog Rows.valueOrderRow.laid W := h0
  have h3 := h.tail.tail
  have h5 := h3.tail.tail
  have h6 := h5.tail
  have t1 : Lib.TabIs Tryd.prog W "internal/strconv.uint64pow10" .u64 Lib.pow10Tab := Lib.tabIs_of_head (g := 3) (t := 102) (e := 42) (n := 20) (by kernel_rfl) (by kernel_rfl) (by kernel_rfl) (by kernel_rfl) (by kernel_rfl) (by kernel_rfl) h3
  obtain ⟨a0, s0, hv0, -, -, -⟩ := laid_sentinel (g := 5) h5 (by kernel_rfl) (by kernel_rfl) Tryd.underlying49 row_err Tryd.underlying115 Tryd.underlying117 rfl rfl Tryd.underlying9 (by kernel_rfl) (by kernel_rfl)
  obtain ⟨a1, s1, hv1, -, -, -⟩ := laid_sentinel (g := 4) h6 (by kernel_rfl) (by kernel_rfl) Tryd.underlying49 row_err Tryd.underlying115 Tryd.underlying117 rfl rfl Tryd.underlying9 (by kernel_rfl) (by kernel_rfl)
  exact glob_of t1 ⟨_, _, hv0⟩ ⟨_, _, hv1⟩
end Go.Proofs.YtdiacjlnedccpaaDoor
