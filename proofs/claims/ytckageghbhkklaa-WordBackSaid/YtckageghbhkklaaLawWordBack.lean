/- WordBack: values come back from their words, words from their values, and no two values have one word. For all values and int64 words, no condition. -/
import Derived.Test.YtckageghbhkklaaWord3
import Derived.Test.YtckageghbhkklaaRow
import Derived.Test.YtckageghbhkklaaRows
namespace Go.Proofs.Ytckageghbhkklaa
open Go Go.Proofs Go.RowKit Go.ChangeShapes Go.WideShapes Go.ChangeAt Go.Proofs.YtckageghbhkklaaV
set_option linter.unusedVariables false
set_option linter.unusedSimpArgs false
namespace WordBackRow
theorem own : ownKnob Try.prog.godebug = none := by kernel_rfl
theorem laid : laidOutB Try.prog = true := by kernel_rfl
theorem len {H : Type} (ds : List (DataW H)) (h : ds.length = 3) : ∃ a0 a1 a2, ds = [a0, a1, a2] := by
  match ds, h with
  | [a0, a1, a2], _ => exact ⟨a0, a1, a2, rfl⟩
set_option maxRecDepth 100000 in
theorem lifted (os : Os) (started : os.Started) (H : Type) (enc : TypeId × Value → H) :
    ReturnsInHanded {} Try.checked os 7 .any (Rows.wordBackSpec.pre6 enc Try.prog Try.f7 Rows.wordBackRow.domain false) (Rows.wordBackSpec.post enc Try.prog Try.f7 false true false false) := by
  refine law_lifted (M := Try.checked) own started (by kernel_rfl) Try.func7
    (ChangeSpec.witness6 (enc := enc) (C := Try.checked) false ⟨#[], #[.agg #[.int .i64 0, .int .i64 0], .agg #[.int .i64 0, .int .i64 0], .int .i64 0], []⟩ 12 (by kernel_rfl) (by kernel_rfl) (by kernel_rfl) (by kernel_rfl))
    rfl rfl laid (by kernel_rfl) rfl Try.underlying4 (fun ds hl => ?_) ?_
  · obtain ⟨a0, a1, a2, rfl⟩ := len ds hl
    rfl
  · intro W args ds ps hA
    obtain ⟨hA, ⟨base, hw⟩, hre, hlt⟩ := hA
    rw [Try.params7] at hA
    obtain ⟨v0, vs0, d0, ds0, p0, q0, hargs, rfl, rfl, h0, r0⟩ := trodAll_cons hA
    obtain ⟨v1, vs1, d1, ds1, p1, q1, rfl, rfl, rfl, h1, r1⟩ := trodAll_cons r0
    obtain ⟨v2, vs2, d2, ds2, p2, q2, rfl, rfl, rfl, h2, r2⟩ := trodAll_cons r1
    obtain ⟨rfl, rfl, rfl⟩ := trodAll_nil r2
    obtain rfl : args = #[v0, v1, v2] := by cases args; simp_all
    obtain ⟨cs0, rfl, hk0⟩ := open_struct_arg (d := 3) (ks := [.int .i64, .int .i64]) Try.underlying40 (by kernel_rfl) (hw 0 40 v0 rfl rfl) h0
    obtain ⟨cs1, rfl, hk1⟩ := open_struct_arg (d := 3) (ks := [.int .i64, .int .i64]) Try.underlying40 (by kernel_rfl) (hw 1 40 v1 rfl rfl) h1
    obtain ⟨n2, rfl, rfl, rfl, w2⟩ := open_int Try.underlying2 (hw 2 2 v2 rfl rfl) h2
    obtain ⟨k, n, hcs, _⟩ := ok2 hk0
    obtain rfl : cs0 = #[.int .i64 k, .int .i64 n] := by apply Array.ext'; simpa using hcs
    obtain ⟨l, m, hcs1, _⟩ := ok2 hk1
    obtain rfl : cs1 = #[.int .i64 l, .int .i64 m] := by apply Array.ext'; simpa using hcs1
    have hr : -9223372036854775808 ≤ n2 ∧ n2 ≤ 9223372036854775807 := by
      simp only [Lit.wf, Bool.and_eq_true, decide_eq_true_eq] at w2
      simpa [IntKind.min, IntKind.max, IntKind.signed, IntKind.bits] using w2
    exact WordBack_c hr fun w' hf => ⟨rfl, hf⟩
theorem over : Rows.wordBackRow.holds Try.pinned (OpenSpec.ofChange Rows.wordBackSpec) :=
  OpenClaim.holds_of_wide 7 Try.f7 rfl rfl rfl rfl rfl rfl rfl ⟨rfl, rfl, rfl, rfl, rfl⟩ rfl rfl rfl rfl rfl (by kernel_rfl) Try.func7 (by kernel_rfl)
    (of_decide_eq_true (by kernel_rfl)) (by unfold Func.isWrapper; first | (rw [if_pos (by decide +kernel)]; kernel_rfl) | (rw [if_neg (by decide +kernel)]; exact ⟨rfl, rfl⟩))
    (fun os started H enc _ => lifted os started H enc)
end WordBackRow
/-- The row, under a short name, for the claim. -/
theorem wordBack_holds : Rows.WordBackSaid := WordBackRow.over
#print axioms wordBack_holds
end Go.Proofs.Ytckageghbhkklaa
