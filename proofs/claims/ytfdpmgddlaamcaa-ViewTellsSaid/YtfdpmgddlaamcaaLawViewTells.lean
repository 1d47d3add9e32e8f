/- ViewTells: whether any two views are alike, the node of any serial, and how many words there are, is as the page says. For every two views and every serial, no condition. -/
import Derived.Test.YtfdpmgddlaamcaaVopen
import Derived.Test.YtfdpmgddlaamcaaRow
import Derived.Test.YtfdpmgddlaamcaaRows

namespace Go.Proofs.Ytfdpmgddlaamcaa
open Go Go.Proofs Go.RowKit Go.ChangeShapes Go.WideShapes Go.ChangeAt Go.Proofs.YtfdpmgddlaamcaaV
set_option linter.unusedVariables false
set_option linter.unusedSimpArgs false
namespace ViewTellsRow
theorem own : ownKnob Try.prog.godebug = none := by kernel_rfl
theorem laid : laidOutB Try.prog = true := by kernel_rfl
theorem len {H : Type} (ds : List (DataW H)) (h : ds.length = 3) : ∃ a0 a1 a2, ds = [a0, a1, a2] := by
  match ds, h with
  | [a0, a1, a2], _ => exact ⟨a0, a1, a2, rfl⟩
set_option maxRecDepth 100000 in
theorem lifted (os : Os) (started : os.Started) (H : Type) (enc : TypeId × Value → H) :
    ReturnsInHanded {} Try.checked os 8 .any (Rows.viewTellsSpec.pre6 enc Try.prog Try.f8 Rows.viewTellsRow.domain false) (Rows.viewTellsSpec.post enc Try.prog Try.f8 false true false false) := by
  refine law_lifted (M := Try.checked) own started (by kernel_rfl) Try.func8
    (ChangeSpec.witness6 (enc := enc) (C := Try.checked) false ⟨#[], #[.agg #[.slice none 0 0, .slice none 0 0], .agg #[.slice none 0 0, .slice none 0 0], .int .i64 0], []⟩ 12 (by kernel_rfl) (by kernel_rfl) (by kernel_rfl) (by kernel_rfl))
    rfl rfl laid (by kernel_rfl) rfl Try.underlying4 (fun ds hl => ?_) ?_
  · obtain ⟨a0, a1, a2, rfl⟩ := len ds hl
    rfl
  · intro W args ds ps hA
    obtain ⟨hA, ⟨base, hw⟩, hre, hlt⟩ := hA
    rw [Try.params8] at hA hre
    obtain ⟨v0, vs0, d0, ds0, p0, q0, hargs, rfl, rfl, h0, r0⟩ := trodAll_cons hA
    obtain ⟨v1, vs1, d1, ds1, p1, q1, rfl, rfl, rfl, h1, r1⟩ := trodAll_cons r0
    obtain ⟨v2, vs2, d2, ds2, p2, q2, rfl, rfl, rfl, h2, r2⟩ := trodAll_cons r1
    obtain ⟨rfl, rfl, rfl⟩ := trodAll_nil r2
    obtain rfl : args = #[v0, v1, v2] := by cases args; simp_all
    obtain ⟨rv0, nv0, V0, rfl, hV0, hFt0, hB0⟩ := open_view (hw 0 51 v0 rfl rfl) h0
    have hF0 := hFt0 fun n hn => of_decide_eq_true (List.all_eq_true.1 hre n (DataW.weights_mem_each (j := 0) rfl rfl n hn))
    obtain ⟨rv1, nv1, V1, rfl, hV1, hFt1, hB1⟩ := open_view (hw 1 51 v1 rfl rfl) h1
    have hF1 := hFt1 fun n hn => of_decide_eq_true (List.all_eq_true.1 hre n (DataW.weights_mem_each (j := 1) rfl rfl n hn))
    obtain ⟨n2, rfl, rfl, rfl, w2⟩ := open_int Try.underlying2 (hw 2 2 v2 rfl rfl) h2
    exact ViewTells_c alive_ok hV0 hV1 hF0 fun w' hf => ⟨rfl, hf⟩
theorem over : Rows.viewTellsRow.holds Try.pinned (OpenSpec.ofChange Rows.viewTellsSpec) :=
  OpenClaim.holds_of_wide 8 Try.f8 rfl rfl rfl rfl rfl rfl rfl ⟨rfl, rfl, rfl, rfl, rfl⟩ rfl rfl rfl rfl rfl (by kernel_rfl) Try.func8 (by kernel_rfl)
    (of_decide_eq_true (by kernel_rfl)) (by unfold Func.isWrapper; first | (rw [if_pos (by decide +kernel)]; kernel_rfl) | (rw [if_neg (by decide +kernel)]; exact ⟨rfl, rfl⟩))
    (fun os started H enc _ => lifted os started H enc)
end ViewTellsRow
/-- The row, under a short name, for the claim. -/
theorem viewTells_holds : Rows.ViewTellsSaid := ViewTellsRow.over
#print axioms viewTells_holds
end Go.Proofs.Ytfdpmgddlaamcaa
