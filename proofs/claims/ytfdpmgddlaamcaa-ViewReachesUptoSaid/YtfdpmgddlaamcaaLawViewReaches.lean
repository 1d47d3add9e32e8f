/- ViewReaches: the reachable part of any view is what its roots, and node 0, lead to by references, each serial once. For every view of bulk at most 1048576 (the second form: the call puts serials behind one another). -/
import Derived.Test.YtfdpmgddlaamcaaVopen
import Derived.Test.YtfdpmgddlaamcaaRow
import Derived.Test.YtfdpmgddlaamcaaRows
import Derived.Test.YtfdpmgddlaamcaaRowUpto
import Derived.Test.YtfdpmgddlaamcaaVw13
namespace Go.Proofs.Ytfdpmgddlaamcaa
open Go Go.Proofs Go.RowKit Go.ChangeShapes Go.WideShapes Go.ChangeAt Go.Proofs.YtfdpmgddlaamcaaV
set_option linter.unusedVariables false
set_option linter.unusedSimpArgs false
namespace ViewReachesRow
theorem own : ownKnob Try.prog.godebug = none := by kernel_rfl
theorem laid : laidOutB Try.prog = true := by kernel_rfl
theorem len {H : Type} (ds : List (DataW H)) (h : ds.length = 1) : ∃ a0, ds = [a0] := by
  match ds, h with
  | [a0], _ => exact ⟨a0, rfl⟩
set_option maxRecDepth 100000 in
theorem lifted (os : Os) (started : os.Started) (H : Type) (enc : TypeId × Value → H) (F : Stop.Interp) :
    ReturnsInHanded {} Try.checked os 7 .any ((Rows.OpenSpec.upto Rows.viewReachesSpec).pre6 enc Try.prog Try.f7 Rows.viewReachesUptoRow.domain false) (((Rows.OpenSpec.upto Rows.viewReachesSpec).at F).post enc Try.prog Try.f7 false true false false) := by
  refine law_lifted_cond (M := Try.checked) (s := Rows.viewReachesSpec) (k := Rows.uptoSmall) (F := F) own started (by kernel_rfl) Try.func7
    (OpenSpec.witness (enc := enc) (C := Try.checked) (s := Rows.OpenSpec.upto Rows.viewReachesSpec) (k := Rows.uptoSmall) rfl false ⟨#[], #[.agg #[.slice none 0 0, .slice none 0 0]], []⟩ 12 (by kernel_rfl) (by kernel_rfl) (by kernel_rfl)
      (x := ([.agg [.nil, .nil]], [], [])) (by kernel_rfl) rfl (by kernel_rfl))
    rfl rfl laid (by kernel_rfl) rfl Try.underlying4 (fun ds hl => ?_) ?_
  · obtain ⟨a0, rfl⟩ := len ds hl
    rfl
  · intro W args ds ps hA hsm
    obtain ⟨hA, ⟨base, hw⟩, hre, hlt⟩ := hA
    rw [Try.params7] at hA hre
    obtain ⟨v0, vs0, d0, ds0, p0, q0, hargs, rfl, rfl, h0, r0⟩ := trodAll_cons hA
    obtain ⟨rfl, rfl, rfl⟩ := trodAll_nil r0
    obtain rfl : args = #[v0] := by cases args; simp_all
    obtain ⟨rv0, nv0, V0, rfl, hV0, hFt0, hB0⟩ := open_view (hw 0 51 v0 rfl rfl) h0
    have hF0 := hFt0 fun n hn => of_decide_eq_true (List.all_eq_true.1 hre n (DataW.weights_mem_each (j := 0) rfl rfl n hn))
    have hsm2 : Rows.uptoBulkAll [d0] ≤ 1048576 := of_decide_eq_true hsm
    simp only [Rows.uptoBulkAll, Nat.add_zero] at hsm2
    exact ViewReaches_c hV0 (FitT.of (by omega)) fun w' hf => ⟨rfl, hf⟩
theorem over : Rows.viewReachesUptoRow.holds Try.pinned (Rows.OpenSpec.upto Rows.viewReachesSpec) :=
  OpenClaim.holds_of_cond 7 Try.f7 rfl rfl rfl rfl rfl rfl rfl ⟨rfl, rfl, rfl, rfl, rfl⟩ rfl rfl rfl rfl rfl (by kernel_rfl) Try.func7 (by kernel_rfl)
    (of_decide_eq_true (by kernel_rfl)) (by unfold Func.isWrapper; first | (rw [if_pos (by decide +kernel)]; kernel_rfl) | (rw [if_neg (by decide +kernel)]; exact ⟨rfl, rfl⟩))
    (fun os started H enc _ F => lifted os started H enc F)
end ViewReachesRow
/-- The row, under a short name, for the claim. -/
theorem viewReaches_holds : Rows.ViewReachesUptoSaid := ViewReachesRow.over
#print axioms viewReaches_holds
end Go.Proofs.Ytfdpmgddlaamcaa
