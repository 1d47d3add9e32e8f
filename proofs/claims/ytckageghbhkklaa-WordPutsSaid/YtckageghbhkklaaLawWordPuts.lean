/- WordPuts: whether any value may be, and its word, is as the page says. For every value, no condition. -/
import Derived.Test.YtckageghbhkklaaWord3
import Derived.Test.YtckageghbhkklaaRow
import Derived.Test.YtckageghbhkklaaRows
namespace Go.Proofs.Ytckageghbhkklaa
open Go Go.Proofs Go.RowKit Go.ChangeShapes Go.WideShapes Go.ChangeAt Go.Proofs.YtckageghbhkklaaV
set_option linter.unusedVariables false
set_option linter.unusedSimpArgs false
namespace WordPutsRow
theorem own : ownKnob Try.prog.godebug = none := by kernel_rfl
theorem laid : laidOutB Try.prog = true := by kernel_rfl
theorem len {H : Type} (ds : List (DataW H)) (h : ds.length = 1) : ∃ a0, ds = [a0] := by
  match ds, h with
  | [a0], _ => exact ⟨a0, rfl⟩
set_option maxRecDepth 100000 in
theorem lifted (os : Os) (started : os.Started) (H : Type) (enc : TypeId × Value → H) :
    ReturnsInHanded {} Try.checked os 5 .any (Rows.wordPutsSpec.pre6 enc Try.prog Try.f5 Rows.wordPutsRow.domain false) (Rows.wordPutsSpec.post enc Try.prog Try.f5 false true false false) := by
  refine law_lifted (M := Try.checked) own started (by kernel_rfl) Try.func5
    (ChangeSpec.witness6 (enc := enc) (C := Try.checked) false ⟨#[], #[.agg #[.int .i64 0, .int .i64 0]], []⟩ 12 (by kernel_rfl) (by kernel_rfl) (by kernel_rfl) (by kernel_rfl))
    rfl rfl laid (by kernel_rfl) rfl Try.underlying4 (fun ds hl => ?_) ?_
  · obtain ⟨a0, rfl⟩ := len ds hl
    rfl
  · intro W args ds ps hA
    obtain ⟨hA, ⟨base, hw⟩, hre, hlt⟩ := hA
    rw [Try.params5] at hA
    obtain ⟨v0, vs0, d0, ds0, p0, q0, hargs, rfl, rfl, h0, r0⟩ := trodAll_cons hA
    obtain ⟨rfl, rfl, rfl⟩ := trodAll_nil r0
    obtain rfl : args = #[v0] := by cases args; simp_all
    obtain ⟨cs0, rfl, hk0⟩ := open_struct_arg (d := 3) (ks := [.int .i64, .int .i64]) Try.underlying40 (by kernel_rfl) (hw 0 40 v0 rfl rfl) h0
    obtain ⟨k, n, hcs, _⟩ := ok2 hk0
    obtain rfl : cs0 = #[.int .i64 k, .int .i64 n] := by apply Array.ext'; simpa using hcs
    exact WordPuts_c k n fun w' hf => ⟨rfl, hf⟩
theorem over : Rows.wordPutsRow.holds Try.pinned (OpenSpec.ofChange Rows.wordPutsSpec) :=
  OpenClaim.holds_of_wide 5 Try.f5 rfl rfl rfl rfl rfl rfl rfl ⟨rfl, rfl, rfl, rfl, rfl⟩ rfl rfl rfl rfl rfl (by kernel_rfl) Try.func5 (by kernel_rfl)
    (of_decide_eq_true (by kernel_rfl)) (by unfold Func.isWrapper; first | (rw [if_pos (by decide +kernel)]; kernel_rfl) | (rw [if_neg (by decide +kernel)]; exact ⟨rfl, rfl⟩))
    (fun os started H enc _ => lifted os started H enc)
end WordPutsRow
/-- The row, under a short name, for the claim. -/
theorem wordPuts_holds : Rows.WordPutsSaid := WordPutsRow.over
#print axioms wordPuts_holds
end Go.Proofs.Ytckageghbhkklaa
