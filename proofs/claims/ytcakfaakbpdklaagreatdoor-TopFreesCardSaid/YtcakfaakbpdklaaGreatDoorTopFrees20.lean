/- Part 20 of what the law needs: own lemmas, in the order in which they build. -/
import Derived.JoinedOf
import Derived.SevenTiedAt
import Derived.KernelRfl
import Derived.Test.YtcakfaakbpdklaaGreatDoorRows
import Derived.Test.YtcakfaakbpdklaaGreatDoorTopFrees19
set_option maxRecDepth 100000
namespace Go.Proofs.YtcakfaakbpdklaaGreatDoor
open Go Go.Proofs
namespace TopFreesRow
theorem jf0:(Rows.topFreesRow.wf (OpenSpec.ofChange Rows.topFreesSpec))=true:=by kernel_rfl
theorem jf1:(laidOutB Tryz.prog)=true:=by kernel_rfl
theorem jf2:(mapsRowed Tryz.prog)=true:=by kernel_rfl
theorem jf3:(Tryz.f5.params.all (Tryz.prog.readableRec ·))=true:=by kernel_rfl
theorem jf4:(namedTie Tryz.prog Rows.topFreesRow.named Rows.topFreesSpec.vars)=true:=by kernel_rfl
theorem jf5:(Rows.topFreesRow.stops == [])=true:=by kernel_rfl
theorem jf6:(Tryz.prog.stops == [])=true:=by kernel_rfl
theorem jf7:(Rows.topFreesRow.knobs == [])=true:=by kernel_rfl
theorem jf8:(Tryz.prog.stopKnobs == [])=true:=by kernel_rfl
theorem jf9:(Rows.topFreesRow.inPlace == Tryz.prog.inPlace 5)=true:=by kernel_rfl
theorem zgy:(Rows.topFreesRow.unfollowed == Tryz.prog.unfollowed 5)=true:=by kernel_rfl
theorem zgz:(Rows.topFreesRow.recurses == Tryz.prog.recurses 5)=true:=by kernel_rfl
theorem zg0:(Rows.topFreesRow.named == Tryz.prog.varsNamed 5)=true:=by kernel_rfl
theorem zg1:(Rows.topFreesRow.maps == (Tryz.f5.params.toList ++ Rows.topFreesSpec.plain.varTypes Tryz.prog).any (Tryz.prog.mapsRec ·))=true:=by kernel_rfl
theorem zg2:(Rows.topFreesRow.ifaces == (Tryz.f5.params.toList ++ Rows.topFreesSpec.plain.varTypes Tryz.prog).any (Tryz.prog.ifacesRec ·))=true:=by kernel_rfl
theorem zg3:(Rows.topFreesRow.mapsOut == Tryz.prog.mapsAmong Tryz.f5.resultTypes.toList)=true:=by kernel_rfl
theorem zg4:(Rows.topFreesRow.loops == (Tryz.f5.params.toList ++ Rows.topFreesSpec.plain.varTypes Tryz.prog).any (Tryz.prog.loopsFrom ·))=true:=by kernel_rfl
theorem zg5:(Rows.topFreesRow.wideKeys == (Tryz.f5.params.toList ++ Rows.topFreesSpec.plain.varTypes Tryz.prog ++ Tryz.f5.resultTypes.toList).any (Tryz.prog.wideKeysFrom ·))=true:=by kernel_rfl
theorem zg6:(Rows.topFreesSpec.vars.all (Tryz.prog.varReadable ·))=true:=by kernel_rfl
theorem zg7:(Tryz.f5.resultTypes.all (fun t=>Tryz.prog.readableRec t && decide (t<Tryz.prog.types.size)))=true:=by kernel_rfl
theorem zg8:(Rows.topFreesRow.ifacesOut == Tryz.f5.resultTypes.toList.any (Tryz.prog.ifacesRec ·))=true:=by kernel_rfl
theorem zg9:(Rows.topFreesRow.loopsOut == Tryz.f5.resultTypes.toList.any (Tryz.prog.loopsFrom ·))=true:=by kernel_rfl
theorem zha:(Rows.topFreesRow.plainKeys == Tryz.prog.plainKeys)=true:=by kernel_rfl
theorem zhb:(Rows.topFreesRow.shortTexts.isNone)=true:=by kernel_rfl
theorem zhc:(Tryz.prog.stopsHeard)=true:=by kernel_rfl
theorem zhd:(Tryz.prog.mayEnter)=true:=by kernel_rfl
theorem zhe:(Rows.topFreesRow.lifted == Tryz.prog.liftsFinal)=true:=by kernel_rfl
theorem zhf:(Tryz.prog.make == some Rows.topFreesRow.make)=true:=by kernel_rfl
theorem zgb:joinedFacts Tryz.prog 5 Tryz.f5 Rows.topFreesSpec Rows.topFreesRow=true:=by
 unfold joinedFacts
 rw[jf0,jf1,jf2,jf3,jf4,jf5,jf6,jf7,jf8,jf9,zgy,zgz,zg0,zg1,zg2,zg3,zg4,zg5,zg6,zg7,zg8,zg9,zha,zhb,zhc,zhd,zhe,zhf]
 kernel_rfl
theorem named:Tryz.pinned.checked.prog.funcNamed Rows.topFreesRow.func=some 5:=by kernel_rfl
theorem zey:Tryz.f5.isInstance Tryz.pinned.checked.prog Rows.topFreesRow.origin Rows.topFreesRow.targs:=of_decide_eq_true (by kernel_rfl)
theorem zez:Tryz.f5.isWrapper Tryz.pinned.checked.prog Rows.topFreesRow.wrapper Rows.topFreesRow.mainSum:=by unfold Func.isWrapper;first | (rw[if_pos (by decide +kernel)];kernel_rfl) | (rw[if_neg (by decide +kernel)];exact⟨rfl,rfl⟩)
theorem zfp:Rows.topFreesRow.wfByText (OpenSpec.ofChange Rows.topFreesSpec)=true:=by kernel_rfl
theorem qne : Tryz.pinned.checked.prog.mainIs = some (true, "0a64a7137f4d198caa5639d353744b9ce3e5842de8ad2b937f2d663ba31dc890".toList) := by kernel_rfl
theorem looks:false=Tryz.pinned.checked.prog.looks []:=by kernel_rfl
theorem zgx:false=Rows.topFreesRow.goesBy Tryz.pinned.checked.prog:=by kernel_rfl
end TopFreesRow
end Go.Proofs.YtcakfaakbpdklaaGreatDoor
