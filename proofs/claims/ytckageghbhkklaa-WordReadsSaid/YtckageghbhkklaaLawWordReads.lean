/- WordReads: the value whose word any number is, and the address, if it is a reference's, are as the page says. For every int64, no condition. -/
import Derived.Test.YtckageghbhkklaaWord3
import Derived.Test.YtckageghbhkklaaRow
import Derived.Test.YtckageghbhkklaaRows
namespace Go.Proofs.Ytckageghbhkklaa
open Go Go.Proofs Go.RowKit Go.ChangeShapes Go.WideShapes Go.ChangeAt Go.Proofs.YtckageghbhkklaaV
set_option linter.unusedVariables false
set_option linter.unusedSimpArgs false
namespace WordReadsRow
theorem own : ownKnob Try.prog.godebug = none := by kernel_rfl
theorem laid : laidOutB Try.prog = true := by kernel_rfl
theorem len {H : Type} (ds : List (DataW H)) (h : ds.length = 1) : ∃ a0, ds = [a0] := by
  match ds, h with
  | [a0], _ => exact ⟨a0, rfl⟩
set_option maxRecDepth 100000 in
theorem lifted (os : Os) (started : os.Started) (H : Type) (enc : TypeId × Value → H) :
    ReturnsInHanded {} Try.checked os 6 .any (Rows.wordReadsSpec.pre6 enc Try.prog Try.f6 Rows.wordReadsRow.domain false) (Rows.wordReadsSpec.post enc Try.prog Try.f6 false true false false) := by
  refine law_lifted (M := Try.checked) own started (by kernel_rfl) Try.func6
    (ChangeSpec.witness6 (enc := enc) (C := Try.checked) false ⟨#[], #[.int .i64 0], []⟩ 12 (by kernel_rfl) (by kernel_rfl) (by kernel_rfl) (by kernel_rfl))
    rfl rfl laid (by kernel_rfl) rfl Try.underlying4 (fun ds hl => ?_) ?_
  · obtain ⟨a0, rfl⟩ := len ds hl
    rfl
  · intro W args ds ps hA
    obtain ⟨hA, ⟨base, hw⟩, hre, hlt⟩ := hA
    rw [Try.params6] at hA
    obtain ⟨v0, vs0, d0, ds0, p0, q0, hargs, rfl, rfl, h0, r0⟩ := trodAll_cons hA
    obtain ⟨rfl, rfl, rfl⟩ := trodAll_nil r0
    obtain rfl : args = #[v0] := by cases args; simp_all
    obtain ⟨n0, rfl, rfl, rfl, w0⟩ := open_int Try.underlying2 (hw 0 2 v0 rfl rfl) h0
    have hr : -9223372036854775808 ≤ n0 ∧ n0 ≤ 9223372036854775807 := by
      simp only [Lit.wf, Bool.and_eq_true, decide_eq_true_eq] at w0
      simpa [IntKind.min, IntKind.max, IntKind.signed, IntKind.bits] using w0
    exact WordReads_c n0 hr fun w' hf => ⟨rfl, hf⟩
theorem over : Rows.wordReadsRow.holds Try.pinned (OpenSpec.ofChange Rows.wordReadsSpec) :=
  OpenClaim.holds_of_wide 6 Try.f6 rfl rfl rfl rfl rfl rfl rfl ⟨rfl, rfl, rfl, rfl, rfl⟩ rfl rfl rfl rfl rfl (by kernel_rfl) Try.func6 (by kernel_rfl)
    (of_decide_eq_true (by kernel_rfl)) (by unfold Func.isWrapper; first | (rw [if_pos (by decide +kernel)]; kernel_rfl) | (rw [if_neg (by decide +kernel)]; exact ⟨rfl, rfl⟩))
    (fun os started H enc _ => lifted os started H enc)
end WordReadsRow
/-- The row, under a short name, for the claim. -/
theorem wordReads_holds : Rows.WordReadsSaid := WordReadsRow.over
#print axioms wordReads_holds
end Go.Proofs.Ytckageghbhkklaa
