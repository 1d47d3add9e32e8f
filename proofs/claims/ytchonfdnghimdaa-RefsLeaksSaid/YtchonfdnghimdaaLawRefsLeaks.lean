/- RefsLeaks: of any graph each node that leaks is held by a ring of nodes that leak; without rings nothing leaks. For every graph, no condition. -/
import Derived.Test.YtchonfdnghimdaaRf9
import Derived.Test.YtchonfdnghimdaaRow
import Derived.Test.YtchonfdnghimdaaRows
import Derived.Test.YtchonfdnghimdaaGopen
namespace Go.Proofs.Ytchonfdnghimdaa
open Go Go.Proofs Go.RowKit Go.ChangeShapes Go.WideShapes Go.ChangeAt Go.Proofs.YtchonfdnghimdaaV
set_option linter.unusedVariables false
set_option linter.unusedSimpArgs false
namespace RefsLeaksRow
theorem own : ownKnob Try.prog.godebug = none := by kernel_rfl
theorem laid : laidOutB Try.prog = true := by kernel_rfl
theorem len {H : Type} (ds : List (DataW H)) (h : ds.length = 1) : ∃ a0, ds = [a0] := by
  match ds, h with
  | [a0], _ => exact ⟨a0, rfl⟩
set_option maxRecDepth 100000 in
theorem lifted (os : Os) (started : os.Started) (H : Type) (enc : TypeId × Value → H) :
    ReturnsInHanded {} Try.checked os 6 .any (Rows.refsLeaksSpec.pre6 enc Try.prog Try.f6 Rows.refsLeaksRow.domain false) (Rows.refsLeaksSpec.post enc Try.prog Try.f6 false true false false) := by
  refine law_lifted (M := Try.checked) own started (by kernel_rfl) Try.func6
    (ChangeSpec.witness6 (enc := enc) (C := Try.checked) false ⟨#[], #[.agg #[.slice none 0 0, .slice none 0 0]], []⟩ 12 (by kernel_rfl) (by kernel_rfl) (by kernel_rfl) (by kernel_rfl))
    rfl rfl laid (by kernel_rfl) rfl Try.underlying4 (fun ds hl => ?_) ?_
  · obtain ⟨a0, rfl⟩ := len ds hl
    rfl
  · intro W args ds ps hA
    obtain ⟨hA, ⟨base, hw⟩, hre, hlt⟩ := hA
    rw [Try.params6] at hA hre
    obtain ⟨v0, vs0, d0, ds0, p0, q0, hargs, rfl, rfl, h0, r0⟩ := trodAll_cons hA
    obtain ⟨rfl, rfl, rfl⟩ := trodAll_nil r0
    obtain rfl : args = #[v0] := by cases args; simp_all
    obtain ⟨nv0, rv0, G0, rfl, hg0⟩ := open_graph (hw 0 25 v0 rfl rfl) h0
    have hG0 := hg0 fun n hn => of_decide_eq_true (List.all_eq_true.1 hre n (DataW.weights_mem_each (j := 0) rfl rfl n hn))
    exact RefsLeaks_c hG0 fun w' hf => ⟨rfl, hf⟩
theorem over : Rows.refsLeaksRow.holds Try.pinned (OpenSpec.ofChange Rows.refsLeaksSpec) :=
  OpenClaim.holds_of_wide 6 Try.f6 rfl rfl rfl rfl rfl rfl rfl ⟨rfl, rfl, rfl, rfl, rfl⟩ rfl rfl rfl rfl rfl (by kernel_rfl) Try.func6 (by kernel_rfl)
    (of_decide_eq_true (by kernel_rfl)) (by unfold Func.isWrapper; first | (rw [if_pos (by decide +kernel)]; kernel_rfl) | (rw [if_neg (by decide +kernel)]; exact ⟨rfl, rfl⟩))
    (fun os started H enc _ => lifted os started H enc)
end RefsLeaksRow
/-- The row, under a short name, for the claim. -/
theorem refsLeaks_holds : Rows.RefsLeaksSaid := RefsLeaksRow.over
#print axioms refsLeaks_holds
end Go.Proofs.Ytchonfdnghimdaa
