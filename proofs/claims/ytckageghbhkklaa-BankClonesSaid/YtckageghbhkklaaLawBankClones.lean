/- BankClones: a clone goes on by itself; of a bank that nobody made nothing is told. For every int and all three slices of operations, no condition. -/
import Derived.Test.YtckageghbhkklaaClones
import Derived.Test.YtckageghbhkklaaRow
import Derived.Test.YtckageghbhkklaaRows
namespace Go.Proofs.Ytckageghbhkklaa
open Go Go.Proofs Go.RowKit Go.ChangeShapes Go.WideShapes Go.ChangeAt Go.Proofs.YtckageghbhkklaaV
set_option linter.unusedVariables false
set_option linter.unusedSimpArgs false
namespace BankClonesRow
theorem own : ownKnob Try.prog.godebug = none := by kernel_rfl
theorem laid : laidOutB Try.prog = true := by kernel_rfl
theorem len {H : Type} (ds : List (DataW H)) (h : ds.length = 4) : ∃ a0 a1 a2 a3, ds = [a0, a1, a2, a3] := by
  match ds, h with
  | [a0, a1, a2, a3], _ => exact ⟨a0, a1, a2, a3, rfl⟩
set_option maxRecDepth 100000 in
theorem lifted (os : Os) (started : os.Started) (H : Type) (enc : TypeId × Value → H) :
    ReturnsInHanded {} Try.checked os 8 .any (Rows.bankClonesSpec.pre6 enc Try.prog Try.f8 Rows.bankClonesRow.domain false) (Rows.bankClonesSpec.post enc Try.prog Try.f8 false true false false) := by
  refine law_lifted (M := Try.checked) own started (by kernel_rfl) Try.func8
    (ChangeSpec.witness6 (enc := enc) (C := Try.checked) false ⟨#[], #[.int .i64 0, .slice none 0 0, .slice none 0 0, .slice none 0 0], []⟩ 12 (by kernel_rfl) (by kernel_rfl) (by kernel_rfl) (by kernel_rfl))
    rfl rfl laid (by kernel_rfl) rfl Try.underlying4 (fun ds hl => ?_) ?_
  · obtain ⟨a0, a1, a2, a3, rfl⟩ := len ds hl
    rfl
  · intro W args ds ps hA
    obtain ⟨hA, ⟨base, hw⟩, hre, hlt⟩ := hA
    rw [Try.params8] at hA
    obtain ⟨v0, vs0, d0, ds0, p0, q0, hargs, rfl, rfl, h0, r0⟩ := trodAll_cons hA
    obtain ⟨v1, vs1, d1, ds1, p1, q1, rfl, rfl, rfl, h1, r1⟩ := trodAll_cons r0
    obtain ⟨v2, vs2, d2, ds2, p2, q2, rfl, rfl, rfl, h2, r2⟩ := trodAll_cons r1
    obtain ⟨v3, vs3, d3, ds3, p3, q3, rfl, rfl, rfl, h3, r3⟩ := trodAll_cons r2
    obtain ⟨rfl, rfl, rfl⟩ := trodAll_nil r3
    obtain rfl : args = #[v0, v1, v2, v3] := by cases args; simp_all
    obtain ⟨n0, rfl, rfl, rfl, w0⟩ := open_int Try.underlying3 (hw 0 3 v0 rfl rfl) h0
    obtain ⟨xs1, hr1, hx1⟩ := open_flat_arg (d := 3) (ks := [.int .i64, .int .i64]) Try.underlying22 (by kernel_rfl) (by kernel_rfl) (by decide) (hw 1 22 v1 rfl rfl) h1
    obtain ⟨xs2, hr2, hx2⟩ := open_flat_arg (d := 3) (ks := [.int .i64, .int .i64]) Try.underlying22 (by kernel_rfl) (by kernel_rfl) (by decide) (hw 2 22 v2 rfl rfl) h2
    obtain ⟨xs3, hr3, hx3⟩ := open_flat_arg (d := 3) (ks := [.int .i64, .int .i64]) Try.underlying22 (by kernel_rfl) (by kernel_rfl) (by decide) (hw 3 22 v3 rfl rfl) h3
    obtain ⟨a, rfl⟩ := opsC_of xs1 hx1
    obtain ⟨c, rfl⟩ := opsC_of xs2 hx2
    obtain ⟨d, rfl⟩ := opsC_of xs3 hx3
    exact BankClones_c n0 hr1 hr2 hr3 fun w' hf => ⟨rfl, hf⟩
theorem over : Rows.bankClonesRow.holds Try.pinned (OpenSpec.ofChange Rows.bankClonesSpec) :=
  OpenClaim.holds_of_wide 8 Try.f8 rfl rfl rfl rfl rfl rfl rfl ⟨rfl, rfl, rfl, rfl, rfl⟩ rfl rfl rfl rfl rfl (by kernel_rfl) Try.func8 (by kernel_rfl)
    (of_decide_eq_true (by kernel_rfl)) (by unfold Func.isWrapper; first | (rw [if_pos (by decide +kernel)]; kernel_rfl) | (rw [if_neg (by decide +kernel)]; exact ⟨rfl, rfl⟩))
    (fun os started H enc _ => lifted os started H enc)
end BankClonesRow
/-- The row, under a short name, for the claim. -/
theorem bankClones_holds : Rows.BankClonesSaid := BankClonesRow.over
#print axioms bankClones_holds
end Go.Proofs.Ytckageghbhkklaa
