/- CacheRuns: each call of any script answers, and all pages are told behind it, as of a list. For every int and every slice of operations, no condition. -/
import Derived.Test.YtfdpmgddlaamcaaCa16
import Derived.Test.YtfdpmgddlaamcaaRow
import Derived.Test.YtfdpmgddlaamcaaRows

namespace Go.Proofs.Ytfdpmgddlaamcaa
open Go Go.Proofs Go.RowKit Go.ChangeShapes Go.WideShapes Go.ChangeAt Go.Proofs.YtfdpmgddlaamcaaV
set_option linter.unusedVariables false
set_option linter.unusedSimpArgs false
namespace CacheRunsRow
theorem own : ownKnob Try.prog.godebug = none := by kernel_rfl
theorem laid : laidOutB Try.prog = true := by kernel_rfl
theorem len {H : Type} (ds : List (DataW H)) (h : ds.length = 2) : ∃ a0 a1, ds = [a0, a1] := by
  match ds, h with
  | [a0, a1], _ => exact ⟨a0, a1, rfl⟩
set_option maxRecDepth 100000 in
theorem lifted (os : Os) (started : os.Started) (H : Type) (enc : TypeId × Value → H) :
    ReturnsInHanded {} Try.checked os 3 .any (Rows.cacheRunsSpec.pre6 enc Try.prog Try.f3 Rows.cacheRunsRow.domain false) (Rows.cacheRunsSpec.post enc Try.prog Try.f3 false true false false) := by
  refine law_lifted (M := Try.checked) own started (by kernel_rfl) Try.func3
    (ChangeSpec.witness6 (enc := enc) (C := Try.checked) false ⟨#[], #[.int .i64 0, .slice none 0 0], []⟩ 12 (by kernel_rfl) (by kernel_rfl) (by kernel_rfl) (by kernel_rfl))
    rfl rfl laid (by kernel_rfl) rfl Try.underlying4 (fun ds hl => ?_) ?_
  · obtain ⟨a0, a1, rfl⟩ := len ds hl
    rfl
  · intro W args ds ps hA
    obtain ⟨hA, ⟨base, hw⟩, hre, hlt⟩ := hA
    rw [Try.params3] at hA hre
    obtain ⟨v0, vs0, d0, ds0, p0, q0, hargs, rfl, rfl, h0, r0⟩ := trodAll_cons hA
    obtain ⟨v1, vs1, d1, ds1, p1, q1, rfl, rfl, rfl, h1, r1⟩ := trodAll_cons r0
    obtain ⟨rfl, rfl, rfl⟩ := trodAll_nil r1
    obtain rfl : args = #[v0, v1] := by cases args; simp_all
    obtain ⟨n0, rfl, rfl, rfl, w0⟩ := open_int Try.underlying3 (hw 0 3 v0 rfl rfl) h0
    obtain ⟨xs1, hr1, hx1⟩ := open_flat_arg (d := 4) (ks := [.int .i64, .int .i64, .int .i64, .int .i64]) Try.underlying22 (by kernel_rfl) (by kernel_rfl) (by decide) (hw 1 22 v1 rfl rfl) h1
    obtain ⟨l, rfl⟩ := copC_of xs1 hx1
    exact CacheRuns_c n0 hr1 fun w' hf => ⟨rfl, hf⟩
theorem over : Rows.cacheRunsRow.holds Try.pinned (OpenSpec.ofChange Rows.cacheRunsSpec) :=
  OpenClaim.holds_of_wide 3 Try.f3 rfl rfl rfl rfl rfl rfl rfl ⟨rfl, rfl, rfl, rfl, rfl⟩ rfl rfl rfl rfl rfl (by kernel_rfl) Try.func3 (by kernel_rfl)
    (of_decide_eq_true (by kernel_rfl)) (by unfold Func.isWrapper; first | (rw [if_pos (by decide +kernel)]; kernel_rfl) | (rw [if_neg (by decide +kernel)]; exact ⟨rfl, rfl⟩))
    (fun os started H enc _ => lifted os started H enc)
end CacheRunsRow
/-- The row, under a short name, for the claim. -/
theorem cacheRuns_holds : Rows.CacheRunsSaid := CacheRunsRow.over
#print axioms cacheRuns_holds
end Go.Proofs.Ytfdpmgddlaamcaa
