/- RootsClones: a clone goes on by itself; what was told can be written on; of nil nothing is told. For all three slices of calls, no condition. -/
import Derived.Test.YtckageghbhkklaaRoots6
import Derived.Test.YtckageghbhkklaaRow
import Derived.Test.YtckageghbhkklaaRows
namespace Go.Proofs.Ytckageghbhkklaa
open Go Go.Proofs Go.RowKit Go.ChangeShapes Go.WideShapes Go.ChangeAt Go.Proofs.YtckageghbhkklaaV
set_option linter.unusedVariables false
set_option linter.unusedSimpArgs false
namespace RootsClonesRow
theorem own : ownKnob Try.prog.godebug = none := by kernel_rfl
theorem laid : laidOutB Try.prog = true := by kernel_rfl
theorem len {H : Type} (ds : List (DataW H)) (h : ds.length = 3) : ∃ a0 a1 a2, ds = [a0, a1, a2] := by
  match ds, h with
  | [a0, a1, a2], _ => exact ⟨a0, a1, a2, rfl⟩
set_option maxRecDepth 100000 in
theorem lifted (os : Os) (started : os.Started) (H : Type) (enc : TypeId × Value → H) :
    ReturnsInHanded {} Try.checked os 12 .any (Rows.rootsClonesSpec.pre6 enc Try.prog Try.f12 Rows.rootsClonesRow.domain false) (Rows.rootsClonesSpec.post enc Try.prog Try.f12 false true false false) := by
  refine law_lifted (M := Try.checked) own started (by kernel_rfl) Try.func12
    (ChangeSpec.witness6 (enc := enc) (C := Try.checked) false ⟨#[], #[.slice none 0 0, .slice none 0 0, .slice none 0 0], []⟩ 12 (by kernel_rfl) (by kernel_rfl) (by kernel_rfl) (by kernel_rfl))
    rfl rfl laid (by kernel_rfl) rfl Try.underlying4 (fun ds hl => ?_) ?_
  · obtain ⟨a0, a1, a2, rfl⟩ := len ds hl
    rfl
  · intro W args ds ps hA
    obtain ⟨hA, ⟨base, hw⟩, hre, hlt⟩ := hA
    rw [Try.params12] at hA
    obtain ⟨v0, vs0, d0, ds0, p0, q0, hargs, rfl, rfl, h0, r0⟩ := trodAll_cons hA
    obtain ⟨v1, vs1, d1, ds1, p1, q1, rfl, rfl, rfl, h1, r1⟩ := trodAll_cons r0
    obtain ⟨v2, vs2, d2, ds2, p2, q2, rfl, rfl, rfl, h2, r2⟩ := trodAll_cons r1
    obtain ⟨rfl, rfl, rfl⟩ := trodAll_nil r2
    obtain rfl : args = #[v0, v1, v2] := by cases args; simp_all
    obtain ⟨xs0, hr0, hx0⟩ := open_flat_arg (d := 4) (ks := [.int .i64, .int .i64, .int .i64, .int .i64]) Try.underlying71 (by kernel_rfl) (by kernel_rfl) (by decide) (hw 0 71 v0 rfl rfl) h0
    obtain ⟨xs1, hr1, hx1⟩ := open_flat_arg (d := 4) (ks := [.int .i64, .int .i64, .int .i64, .int .i64]) Try.underlying71 (by kernel_rfl) (by kernel_rfl) (by decide) (hw 1 71 v1 rfl rfl) h1
    obtain ⟨xs2, hr2, hx2⟩ := open_flat_arg (d := 4) (ks := [.int .i64, .int .i64, .int .i64, .int .i64]) Try.underlying71 (by kernel_rfl) (by kernel_rfl) (by decide) (hw 2 71 v2 rfl rfl) h2
    obtain ⟨a, rfl⟩ := ropC_of xs0 hx0
    obtain ⟨b, rfl⟩ := ropC_of xs1 hx1
    obtain ⟨c, rfl⟩ := ropC_of xs2 hx2
    exact RootsClones_c hr0 hr1 hr2 fun w' hf => ⟨rfl, hf⟩
theorem over : Rows.rootsClonesRow.holds Try.pinned (OpenSpec.ofChange Rows.rootsClonesSpec) :=
  OpenClaim.holds_of_wide 12 Try.f12 rfl rfl rfl rfl rfl rfl rfl ⟨rfl, rfl, rfl, rfl, rfl⟩ rfl rfl rfl rfl rfl (by kernel_rfl) Try.func12 (by kernel_rfl)
    (of_decide_eq_true (by kernel_rfl)) (by unfold Func.isWrapper; first | (rw [if_pos (by decide +kernel)]; kernel_rfl) | (rw [if_neg (by decide +kernel)]; exact ⟨rfl, rfl⟩))
    (fun os started H enc _ => lifted os started H enc)
end RootsClonesRow
/-- The row, under a short name, for the claim. -/
theorem rootsClones_holds : Rows.RootsClonesSaid := RootsClonesRow.over
#print axioms rootsClones_holds
end Go.Proofs.Ytckageghbhkklaa
