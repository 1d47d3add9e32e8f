/- ViewOwn: a clone of any view is alike and apart: written on, the view stays; so does it when a node that was found is. For every view and every serial, no condition. -/
import Derived.Test.YtfdpmgddlaamcaaVwOwn2
import Derived.Test.YtfdpmgddlaamcaaRow
import Derived.Test.YtfdpmgddlaamcaaRows
import Derived.Test.YtfdpmgddlaamcaaVopen
namespace Go.Proofs.Ytfdpmgddlaamcaa
open Go Go.Proofs Go.RowKit Go.ChangeShapes Go.WideShapes Go.ChangeAt Go.Proofs.YtfdpmgddlaamcaaV
set_option linter.unusedVariables false
set_option linter.unusedSimpArgs false
namespace ViewOwnRow
theorem own : ownKnob Try.prog.godebug = none := by kernel_rfl
theorem laid : laidOutB Try.prog = true := by kernel_rfl
theorem len {H : Type} (ds : List (DataW H)) (h : ds.length = 2) : ∃ a0 a1, ds = [a0, a1] := by
  match ds, h with
  | [a0, a1], _ => exact ⟨a0, a1, rfl⟩
set_option maxRecDepth 100000 in
theorem lifted (os : Os) (started : os.Started) (H : Type) (enc : TypeId × Value → H) :
    ReturnsInHanded {} Try.checked os 9 .any (Rows.viewOwnSpec.pre6 enc Try.prog Try.f9 Rows.viewOwnRow.domain false) (Rows.viewOwnSpec.post enc Try.prog Try.f9 false true false false) := by
  refine law_lifted (M := Try.checked) own started (by kernel_rfl) Try.func9
    (ChangeSpec.witness6 (enc := enc) (C := Try.checked) false ⟨#[], #[.agg #[.slice none 0 0, .slice none 0 0], .int .i64 0], []⟩ 12 (by kernel_rfl) (by kernel_rfl) (by kernel_rfl) (by kernel_rfl))
    rfl rfl laid (by kernel_rfl) rfl Try.underlying4 (fun ds hl => ?_) ?_
  · obtain ⟨a0, a1, rfl⟩ := len ds hl
    rfl
  · intro W args ds ps hA
    obtain ⟨hA, ⟨base, hw⟩, hre, hlt⟩ := hA
    rw [Try.params9] at hA hre
    obtain ⟨v0, vs0, d0, ds0, p0, q0, hargs, rfl, rfl, h0, r0⟩ := trodAll_cons hA
    obtain ⟨v1, vs1, d1, ds1, p1, q1, rfl, rfl, rfl, h1, r1⟩ := trodAll_cons r0
    obtain ⟨rfl, rfl, rfl⟩ := trodAll_nil r1
    obtain rfl : args = #[v0, v1] := by cases args; simp_all
    obtain ⟨rv0, nv0, V0, rfl, hV0, hFt0, hB0⟩ := open_view (hw 0 51 v0 rfl rfl) h0
    have hF0 := hFt0 fun n hn => of_decide_eq_true (List.all_eq_true.1 hre n (DataW.weights_mem_each (j := 0) rfl rfl n hn))
    obtain ⟨n1, rfl, rfl, rfl, w1⟩ := open_int Try.underlying2 (hw 1 2 v1 rfl rfl) h1
    exact ViewOwn_c alive_ok hV0 hF0 fun w' hf => ⟨rfl, hf⟩
theorem over : Rows.viewOwnRow.holds Try.pinned (OpenSpec.ofChange Rows.viewOwnSpec) :=
  OpenClaim.holds_of_wide 9 Try.f9 rfl rfl rfl rfl rfl rfl rfl ⟨rfl, rfl, rfl, rfl, rfl⟩ rfl rfl rfl rfl rfl (by kernel_rfl) Try.func9 (by kernel_rfl)
    (of_decide_eq_true (by kernel_rfl)) (by unfold Func.isWrapper; first | (rw [if_pos (by decide +kernel)]; kernel_rfl) | (rw [if_neg (by decide +kernel)]; exact ⟨rfl, rfl⟩))
    (fun os started H enc _ => lifted os started H enc)
end ViewOwnRow
/-- The row, under a short name, for the claim. -/
theorem viewOwn_holds : Rows.ViewOwnSaid := ViewOwnRow.over
#print axioms viewOwn_holds
end Go.Proofs.Ytfdpmgddlaamcaa
