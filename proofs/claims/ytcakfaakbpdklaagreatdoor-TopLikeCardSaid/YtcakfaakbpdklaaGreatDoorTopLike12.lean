/- Part 12 of what the law needs: own lemmas, in the order in which they build. -/
import Derived.JoinedOf
import Derived.SevenTiedAt
import Derived.KernelRfl
import Derived.Test.YtcakfaakbpdklaaGreatDoorRows
import Derived.Test.YtcakfaakbpdklaaGreatDoorTopLike11
set_option linter.defProp false
set_option maxRecDepth 100000
namespace Go.Proofs.YtcakfaakbpdklaaGreatDoor
open Go Go.Proofs
namespace TopLikeRow
def Y6:(Rows.topLikeRow.wf (OpenSpec.ofChange Rows.topLikeSpec))=true:=by kernel_rfl
def Y7:(laidOutB Tryz.prog)=true:=by kernel_rfl
def Y8:(mapsRowed Tryz.prog)=true:=by kernel_rfl
def YA:(Tryz.f3.params.all (Tryz.prog.readableRec ·))=true:=by kernel_rfl
def YB:(namedTie Tryz.prog Rows.topLikeRow.named Rows.topLikeSpec.vars)=true:=by kernel_rfl
def YC:(Rows.topLikeRow.stops == [])=true:=by kernel_rfl
def YD:(Tryz.prog.stops == [])=true:=by kernel_rfl
def YE:(Rows.topLikeRow.knobs == [])=true:=by kernel_rfl
def YF:(Tryz.prog.stopKnobs == [])=true:=by kernel_rfl
def YG:(Rows.topLikeRow.inPlace == Tryz.prog.inPlace 3)=true:=by kernel_rfl
def XR:(Rows.topLikeRow.unfollowed == Tryz.prog.unfollowed 3)=true:=by kernel_rfl
def XS:(Rows.topLikeRow.recurses == Tryz.prog.recurses 3)=true:=by kernel_rfl
def XT:(Rows.topLikeRow.named == Tryz.prog.varsNamed 3)=true:=by kernel_rfl
def XU:(Rows.topLikeRow.maps == (Tryz.f3.params.toList++Rows.topLikeSpec.plain.varTypes Tryz.prog).any (Tryz.prog.mapsRec ·))=true:=by kernel_rfl
def XV:(Rows.topLikeRow.ifaces == (Tryz.f3.params.toList++Rows.topLikeSpec.plain.varTypes Tryz.prog).any (Tryz.prog.ifacesRec ·))=true:=by kernel_rfl
def XW:(Rows.topLikeRow.mapsOut == Tryz.prog.mapsAmong Tryz.f3.resultTypes.toList)=true:=by kernel_rfl
def XX:(Rows.topLikeRow.loops == (Tryz.f3.params.toList++Rows.topLikeSpec.plain.varTypes Tryz.prog).any (Tryz.prog.loopsFrom ·))=true:=by kernel_rfl
def XY:(Rows.topLikeRow.wideKeys == (Tryz.f3.params.toList++Rows.topLikeSpec.plain.varTypes Tryz.prog++Tryz.f3.resultTypes.toList).any (Tryz.prog.wideKeysFrom ·))=true:=by kernel_rfl
def XZ:(Rows.topLikeSpec.vars.all (Tryz.prog.varReadable ·))=true:=by kernel_rfl
def Ya:(Tryz.f3.resultTypes.all (λt=>Tryz.prog.readableRec t && decide (t<Tryz.prog.types.size)))=true:=by kernel_rfl
def Yb:(Rows.topLikeRow.ifacesOut == Tryz.f3.resultTypes.toList.any (Tryz.prog.ifacesRec ·))=true:=by kernel_rfl
def Yc:(Rows.topLikeRow.loopsOut == Tryz.f3.resultTypes.toList.any (Tryz.prog.loopsFrom ·))=true:=by kernel_rfl
def Yd:(Rows.topLikeRow.plainKeys == Tryz.prog.plainKeys)=true:=by kernel_rfl
def Ye:(Rows.topLikeRow.shortTexts.isNone)=true:=by kernel_rfl
def Yf:(Tryz.prog.stopsHeard)=true:=by kernel_rfl
def Yg:(Tryz.prog.mayEnter)=true:=by kernel_rfl
def Yh:(Rows.topLikeRow.lifted == Tryz.prog.liftsFinal)=true:=by kernel_rfl
def Yi:(Tryz.prog.make == some Rows.topLikeRow.make)=true:=by kernel_rfl
def Xk:joinedFacts Tryz.prog 3 Tryz.f3 Rows.topLikeSpec Rows.topLikeRow=true:=by unfold joinedFacts;rw[Y6,Y7,Y8,YA,YB,YC,YD,YE,YF,YG,XR,XS,XT,XU,XV,XW,XX,XY,XZ,Ya,Yb,Yc,Yd,Ye,Yf,Yg,Yh,Yi];kernel_rfl
def named:Tryz.pinned.checked.prog.funcNamed Rows.topLikeRow.func=some 3:=by kernel_rfl
def Wy:Tryz.f3.isInstance Tryz.pinned.checked.prog Rows.topLikeRow.origin Rows.topLikeRow.targs:=of_decide_eq_true (by kernel_rfl)
def Wz:Tryz.f3.isWrapper Tryz.pinned.checked.prog Rows.topLikeRow.wrapper Rows.topLikeRow.mainSum:=by unfold Func.isWrapper;first | (rw[if_pos (by decide +kernel)];kernel_rfl) | (rw[if_neg (by decide +kernel)];exact⟨rfl,rfl⟩)
def WJ:Rows.topLikeRow.wfByText (OpenSpec.ofChange Rows.topLikeSpec)=true:=by kernel_rfl
def Im : Tryz.pinned.checked.prog.mainIs = some (true, "0a64a7137f4d198caa5639d353744b9ce3e5842de8ad2b937f2d663ba31dc890".toList) := by kernel_rfl
def looks:false=Tryz.pinned.checked.prog.looks []:=by kernel_rfl
def XQ:false=Rows.topLikeRow.goesBy Tryz.pinned.checked.prog:=by kernel_rfl
end TopLikeRow
end Go.Proofs.YtcakfaakbpdklaaGreatDoor
