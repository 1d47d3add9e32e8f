/- SccRings: of any graph the nodes that lie in rings are told, and of any two places whether they are of one part. For every graph and every two places, no condition. -/
import Derived.Test.YtchonfdnghimdaaSc16
import Derived.Test.YtchonfdnghimdaaRow
import Derived.Test.YtchonfdnghimdaaRows
import Derived.Test.YtchonfdnghimdaaGopen
namespace Go.Proofs.Ytchonfdnghimdaa
open Go Go.Proofs Go.RowKit Go.ChangeShapes Go.WideShapes Go.ChangeAt Go.Proofs.YtchonfdnghimdaaV
set_option linter.unusedVariables false
set_option linter.unusedSimpArgs false
namespace SccRingsRow
theorem own : ownKnob Try.prog.godebug = none := by kernel_rfl
theorem laid : laidOutB Try.prog = true := by kernel_rfl
theorem len {H : Type} (ds : List (DataW H)) (h : ds.length = 3) : ∃ a0 a1 a2, ds = [a0, a1, a2] := by
  match ds, h with
  | [a0, a1, a2], _ => exact ⟨a0, a1, a2, rfl⟩
set_option maxRecDepth 100000 in
theorem lifted (os : Os) (started : os.Started) (H : Type) (enc : TypeId × Value → H) :
    ReturnsInHanded {} Try.checked os 4 .any (Rows.sccRingsSpec.pre6 enc Try.prog Try.f4 Rows.sccRingsRow.domain false) (Rows.sccRingsSpec.post enc Try.prog Try.f4 false true false false) := by
  refine law_lifted (M := Try.checked) own started (by kernel_rfl) Try.func4
    (ChangeSpec.witness6 (enc := enc) (C := Try.checked) false ⟨#[], #[.agg #[.slice none 0 0, .slice none 0 0], .int .i64 0, .int .i64 0], []⟩ 12 (by kernel_rfl) (by kernel_rfl) (by kernel_rfl) (by kernel_rfl))
    rfl rfl laid (by kernel_rfl) rfl Try.underlying4 (fun ds hl => ?_) ?_
  · obtain ⟨a0, a1, a2, rfl⟩ := len ds hl
    rfl
  · intro W args ds ps hA
    obtain ⟨hA, ⟨base, hw⟩, hre, hlt⟩ := hA
    rw [Try.params4] at hA hre
    obtain ⟨v0, vs0, d0, ds0, p0, q0, hargs, rfl, rfl, h0, r0⟩ := trodAll_cons hA
    obtain ⟨v1, vs1, d1, ds1, p1, q1, rfl, rfl, rfl, h1, r1⟩ := trodAll_cons r0
    obtain ⟨v2, vs2, d2, ds2, p2, q2, rfl, rfl, rfl, h2, r2⟩ := trodAll_cons r1
    obtain ⟨rfl, rfl, rfl⟩ := trodAll_nil r2
    obtain rfl : args = #[v0, v1, v2] := by cases args; simp_all
    obtain ⟨nv0, rv0, G0, rfl, hg0⟩ := open_graph (hw 0 25 v0 rfl rfl) h0
    have hG0 := hg0 fun n hn => of_decide_eq_true (List.all_eq_true.1 hre n (DataW.weights_mem_each (j := 0) rfl rfl n hn))
    obtain ⟨n1, rfl, rfl, rfl, w1⟩ := open_int Try.underlying3 (hw 1 3 v1 rfl rfl) h1
    obtain ⟨n2, rfl, rfl, rfl, w2⟩ := open_int Try.underlying3 (hw 2 3 v2 rfl rfl) h2
    exact SccRings_c hG0 fun w' hf => ⟨rfl, hf⟩
theorem over : Rows.sccRingsRow.holds Try.pinned (OpenSpec.ofChange Rows.sccRingsSpec) :=
  OpenClaim.holds_of_wide 4 Try.f4 rfl rfl rfl rfl rfl rfl rfl ⟨rfl, rfl, rfl, rfl, rfl⟩ rfl rfl rfl rfl rfl (by kernel_rfl) Try.func4 (by kernel_rfl)
    (of_decide_eq_true (by kernel_rfl)) (by unfold Func.isWrapper; first | (rw [if_pos (by decide +kernel)]; kernel_rfl) | (rw [if_neg (by decide +kernel)]; exact ⟨rfl, rfl⟩))
    (fun os started H enc _ => lifted os started H enc)
end SccRingsRow
/-- The row, under a short name, for the claim. -/
theorem sccRings_holds : Rows.SccRingsSaid := SccRingsRow.over
#print axioms sccRings_holds
end Go.Proofs.Ytchonfdnghimdaa
