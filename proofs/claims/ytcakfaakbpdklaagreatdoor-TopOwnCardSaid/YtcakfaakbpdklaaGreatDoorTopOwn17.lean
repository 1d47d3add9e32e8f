/- Part 17 of what the law needs: own lemmas, in the order in which they build. -/
import Derived.JoinedOf
import Derived.SevenTiedAt
import Derived.KernelRfl
import Derived.Test.YtcakfaakbpdklaaGreatDoorRows
import Derived.Test.YtcakfaakbpdklaaGreatDoorTopOwn16
namespace Go.Proofs.YtcakfaakbpdklaaGreatDoor
open Go Go.Proofs
namespace TopOwnRow
set_option maxRecDepth 100000
theorem jf0 : (Rows.topOwnRow.wf (OpenSpec.ofChange Rows.topOwnSpec)) = true := by kernel_rfl
theorem jf1 : (laidOutB Tryz.prog) = true := by kernel_rfl
theorem jf2 : (mapsRowed Tryz.prog) = true := by kernel_rfl
theorem jf3 : (Tryz.f4.params.all (Tryz.prog.readableRec ·)) = true := by kernel_rfl
theorem jf4 : (namedTie Tryz.prog Rows.topOwnRow.named Rows.topOwnSpec.vars) = true := by kernel_rfl
theorem jf5 : (Rows.topOwnRow.stops == []) = true := by kernel_rfl
theorem jf6 : (Tryz.prog.stops == []) = true := by kernel_rfl
theorem jf7 : (Rows.topOwnRow.knobs == []) = true := by kernel_rfl
theorem jf8 : (Tryz.prog.stopKnobs == []) = true := by kernel_rfl
theorem jf9 : (Rows.topOwnRow.inPlace == Tryz.prog.inPlace 4) = true := by kernel_rfl
theorem qzj : (Rows.topOwnRow.unfollowed == Tryz.prog.unfollowed 4) = true := by kernel_rfl
theorem qzk : (Rows.topOwnRow.recurses == Tryz.prog.recurses 4) = true := by kernel_rfl
theorem qzl : (Rows.topOwnRow.named == Tryz.prog.varsNamed 4) = true := by kernel_rfl
theorem qzm : (Rows.topOwnRow.maps == (Tryz.f4.params.toList ++ Rows.topOwnSpec.plain.varTypes Tryz.prog).any (Tryz.prog.mapsRec ·)) = true := by kernel_rfl
theorem qzn : (Rows.topOwnRow.ifaces == (Tryz.f4.params.toList ++ Rows.topOwnSpec.plain.varTypes Tryz.prog).any (Tryz.prog.ifacesRec ·)) = true := by kernel_rfl
theorem qzo : (Rows.topOwnRow.mapsOut == Tryz.prog.mapsAmong Tryz.f4.resultTypes.toList) = true := by kernel_rfl
theorem qzp : (Rows.topOwnRow.loops == (Tryz.f4.params.toList ++ Rows.topOwnSpec.plain.varTypes Tryz.prog).any (Tryz.prog.loopsFrom ·)) = true := by kernel_rfl
theorem qzq : (Rows.topOwnRow.wideKeys == (Tryz.f4.params.toList ++ Rows.topOwnSpec.plain.varTypes Tryz.prog ++ Tryz.f4.resultTypes.toList).any (Tryz.prog.wideKeysFrom ·)) = true := by kernel_rfl
theorem qzr : (Rows.topOwnSpec.vars.all (Tryz.prog.varReadable ·)) = true := by kernel_rfl
theorem qzs : (Tryz.f4.resultTypes.all (fun t => Tryz.prog.readableRec t && decide (t < Tryz.prog.types.size))) = true := by kernel_rfl
theorem qzt : (Rows.topOwnRow.ifacesOut == Tryz.f4.resultTypes.toList.any (Tryz.prog.ifacesRec ·)) = true := by kernel_rfl
theorem qzu : (Rows.topOwnRow.loopsOut == Tryz.f4.resultTypes.toList.any (Tryz.prog.loopsFrom ·)) = true := by kernel_rfl
theorem qzv : (Rows.topOwnRow.plainKeys == Tryz.prog.plainKeys) = true := by kernel_rfl
theorem qzw : (Rows.topOwnRow.shortTexts.isNone) = true := by kernel_rfl
theorem qzx : (Tryz.prog.stopsHeard) = true := by kernel_rfl
theorem qzy : (Tryz.prog.mayEnter) = true := by kernel_rfl
theorem qzz : (Rows.topOwnRow.lifted == Tryz.prog.liftsFinal) = true := by kernel_rfl
theorem qz0 : (Tryz.prog.make == some Rows.topOwnRow.make) = true := by kernel_rfl
theorem qyw : joinedFacts Tryz.prog 4 Tryz.f4 Rows.topOwnSpec Rows.topOwnRow = true := by
  unfold joinedFacts
  rw [jf0, jf1, jf2, jf3, jf4, jf5, jf6, jf7, jf8, jf9, qzj, qzk, qzl, qzm, qzn, qzo, qzp, qzq, qzr, qzs, qzt, qzu, qzv, qzw, qzx, qzy, qzz, qz0]
  kernel_rfl
theorem named : Tryz.pinned.checked.prog.funcNamed Rows.topOwnRow.func = some 4 := by kernel_rfl
theorem qxx : Tryz.f4.isInstance Tryz.pinned.checked.prog Rows.topOwnRow.origin Rows.topOwnRow.targs := of_decide_eq_true (by kernel_rfl)
theorem qxy : Tryz.f4.isWrapper Tryz.pinned.checked.prog Rows.topOwnRow.wrapper Rows.topOwnRow.mainSum := by unfold Func.isWrapper; first | (rw [if_pos (by decide +kernel)]; kernel_rfl) | (rw [if_neg (by decide +kernel)]; exact ⟨rfl, rfl⟩)
theorem qyf : Rows.topOwnRow.wfByText (OpenSpec.ofChange Rows.topOwnSpec) = true := by kernel_rfl
theorem qj5 : Tryz.pinned.checked.prog.mainIs = some (true, "0a64a7137f4d198caa5639d353744b9ce3e5842de8ad2b937f2d663ba31dc890".toList) := by kernel_rfl
theorem looks : false = Tryz.pinned.checked.prog.looks [] := by kernel_rfl
theorem qzi : false = Rows.topOwnRow.goesBy Tryz.pinned.checked.prog := by kernel_rfl
end TopOwnRow
end Go.Proofs.YtcakfaakbpdklaaGreatDoor
