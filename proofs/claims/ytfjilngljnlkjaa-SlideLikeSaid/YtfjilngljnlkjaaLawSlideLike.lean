/- SlideLike: what the slider of the pages answers is as the page says, for every list of words and roots, no condition. -/
import Derived.Test.YtfjilngljnlkjaaSlE
import Derived.Test.YtfjilngljnlkjaaRow
import Derived.Test.YtfjilngljnlkjaaRows

namespace Go.Proofs.Ytfjilngljnlkjaa
open Go Go.Proofs Go.RowKit Go.ChangeShapes Go.WideShapes Go.ChangeAt Go.Proofs.YtfjilngljnlkjaaV
set_option linter.unusedVariables false
set_option linter.unusedSimpArgs false
namespace SlideLikeRow
theorem own : ownKnob Try.prog.godebug = none := by kernel_rfl
theorem laid : laidOutB Try.prog = true := by kernel_rfl
theorem len {H : Type} (ds : List (DataW H)) (h : ds.length = 2) : ∃ a0 a1, ds = [a0, a1] := by
  match ds, h with
  | [a0, a1], _ => exact ⟨a0, a1, rfl⟩
set_option maxRecDepth 100000 in
theorem lifted (os : Os) (started : os.Started) (H : Type) (enc : TypeId × Value → H) :
    ReturnsInHanded {} Try.checked os 9 .any (Rows.slideLikeSpec.pre6 enc Try.prog Try.f9 Rows.slideLikeRow.domain false) (Rows.slideLikeSpec.post enc Try.prog Try.f9 false true false false) := by
  refine law_lifted (M := Try.checked) own started (by kernel_rfl) Try.func9
    (ChangeSpec.witness6 (enc := enc) (C := Try.checked) false ⟨#[], #[.slice none 0 0, .slice none 0 0], []⟩ 12 (by kernel_rfl) (by kernel_rfl) (by kernel_rfl) (by kernel_rfl))
    rfl rfl laid (by kernel_rfl) rfl Try.underlying4 (fun ds hl => ?_) ?_
  · obtain ⟨a0, a1, rfl⟩ := len ds hl
    rfl
  · intro W args ds ps hA
    obtain ⟨hA, ⟨base, hw⟩, hre, hlt⟩ := hA
    rw [Try.params9] at hA hre
    obtain ⟨v0, vs0, d0, ds0, p0, q0, hargs, rfl, rfl, h0, r0⟩ := trodAll_cons hA
    obtain ⟨v1, vs1, d1, ds1, p1, q1, rfl, rfl, rfl, h1, r1⟩ := trodAll_cons r0
    obtain ⟨rfl, rfl, rfl⟩ := trodAll_nil r1
    obtain rfl : args = #[v0, v1] := by cases args; simp_all
    obtain ⟨xs0, hr0, hx0⟩ := open_flat_arg (d := 1) (ks := [.int .i64]) Try.underlying22 (by kernel_rfl) (by kernel_rfl) (by decide) (hw 0 22 v0 rfl rfl) h0
    obtain ⟨xs1, hr1, hx1⟩ := open_flat_arg (d := 1) (ks := [.int .i64]) Try.underlying22 (by kernel_rfl) (by kernel_rfl) (by decide) (hw 1 22 v1 rfl rfl) h1
    obtain ⟨l0, rfl, hw0⟩ := intC_of xs0 hx0
    obtain ⟨l1, rfl, hw1⟩ := intC_of xs1 hx1
    exact SlideLike_c hr0 (rng_of hw0) hr1 (rng_of hw1) fun w' hf => ⟨rfl, hf⟩
theorem over : Rows.slideLikeRow.holds Try.pinned (OpenSpec.ofChange Rows.slideLikeSpec) :=
  OpenClaim.holds_of_wide 9 Try.f9 rfl rfl rfl rfl rfl rfl rfl ⟨rfl, rfl, rfl, rfl, rfl⟩ rfl rfl rfl rfl rfl (by kernel_rfl) Try.func9 (by kernel_rfl)
    (of_decide_eq_true (by kernel_rfl)) (by unfold Func.isWrapper; first | (rw [if_pos (by decide +kernel)]; kernel_rfl) | (rw [if_neg (by decide +kernel)]; exact ⟨rfl, rfl⟩))
    (fun os started H enc _ => lifted os started H enc)
end SlideLikeRow
/-- The row, under a short name, for the claim. -/
theorem slideLike_holds : Rows.SlideLikeSaid := SlideLikeRow.over
#print axioms slideLike_holds
end Go.Proofs.Ytfjilngljnlkjaa
