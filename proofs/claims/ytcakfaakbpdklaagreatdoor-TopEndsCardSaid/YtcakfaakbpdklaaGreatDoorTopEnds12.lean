/- Part 12 of what the law needs: own lemmas, in the order in which they build. -/
import Derived.JoinedOf
import Derived.SevenTiedAt
import Derived.KernelRfl
import Derived.Test.YtcakfaakbpdklaaGreatDoorRows
import Derived.Test.YtcakfaakbpdklaaGreatDoorTopEnds11
set_option linter.defProp false
set_option maxRecDepth 100000
namespace Go.Proofs.YtcakfaakbpdklaaGreatDoor
open Go Go.Proofs
namespace TopEndsRow
def ZA:(Rows.topEndsRow.wf (OpenSpec.ofChange Rows.topEndsSpec))=true:=by kernel_rfl
def ZB:(laidOutB Tryz.prog)=true:=by kernel_rfl
def ZC:(mapsRowed Tryz.prog)=true:=by kernel_rfl
def ZD:(Tryz.f6.params.all (Tryz.prog.readableRec ·))=true:=by kernel_rfl
def ZE:(namedTie Tryz.prog Rows.topEndsRow.named Rows.topEndsSpec.vars)=true:=by kernel_rfl
def ZF:(Rows.topEndsRow.stops == [])=true:=by kernel_rfl
def ZG:(Tryz.prog.stops == [])=true:=by kernel_rfl
def ZH:(Rows.topEndsRow.knobs == [])=true:=by kernel_rfl
def ZI:(Tryz.prog.stopKnobs == [])=true:=by kernel_rfl
def ZJ:(Rows.topEndsRow.inPlace == Tryz.prog.inPlace 6)=true:=by kernel_rfl
def Za:(Rows.topEndsRow.unfollowed == Tryz.prog.unfollowed 6)=true:=by kernel_rfl
def Zb:(Rows.topEndsRow.recurses == Tryz.prog.recurses 6)=true:=by kernel_rfl
def Zc:(Rows.topEndsRow.named == Tryz.prog.varsNamed 6)=true:=by kernel_rfl
def Zd:(Rows.topEndsRow.maps == (Tryz.f6.params.toList++Rows.topEndsSpec.plain.varTypes Tryz.prog).any (Tryz.prog.mapsRec ·))=true:=by kernel_rfl
def Ze:(Rows.topEndsRow.ifaces == (Tryz.f6.params.toList++Rows.topEndsSpec.plain.varTypes Tryz.prog).any (Tryz.prog.ifacesRec ·))=true:=by kernel_rfl
def Zf:(Rows.topEndsRow.mapsOut == Tryz.prog.mapsAmong Tryz.f6.resultTypes.toList)=true:=by kernel_rfl
def Zg:(Rows.topEndsRow.loops == (Tryz.f6.params.toList++Rows.topEndsSpec.plain.varTypes Tryz.prog).any (Tryz.prog.loopsFrom ·))=true:=by kernel_rfl
def Zh:(Rows.topEndsRow.wideKeys == (Tryz.f6.params.toList++Rows.topEndsSpec.plain.varTypes Tryz.prog++Tryz.f6.resultTypes.toList).any (Tryz.prog.wideKeysFrom ·))=true:=by kernel_rfl
def Zi:(Rows.topEndsSpec.vars.all (Tryz.prog.varReadable ·))=true:=by kernel_rfl
def Zj:(Tryz.f6.resultTypes.all (λt=>Tryz.prog.readableRec t && decide (t<Tryz.prog.types.size)))=true:=by kernel_rfl
def Zk:(Rows.topEndsRow.ifacesOut == Tryz.f6.resultTypes.toList.any (Tryz.prog.ifacesRec ·))=true:=by kernel_rfl
def Zl:(Rows.topEndsRow.loopsOut == Tryz.f6.resultTypes.toList.any (Tryz.prog.loopsFrom ·))=true:=by kernel_rfl
def Zm:(Rows.topEndsRow.plainKeys == Tryz.prog.plainKeys)=true:=by kernel_rfl
def Zn:(Rows.topEndsRow.shortTexts.isNone)=true:=by kernel_rfl
def Zo:(Tryz.prog.stopsHeard)=true:=by kernel_rfl
def Zp:(Tryz.prog.mayEnter)=true:=by kernel_rfl
def Zq:(Rows.topEndsRow.lifted == Tryz.prog.liftsFinal)=true:=by kernel_rfl
def Zr:(Tryz.prog.make == some Rows.topEndsRow.make)=true:=by kernel_rfl
def Y4:joinedFacts Tryz.prog 6 Tryz.f6 Rows.topEndsSpec Rows.topEndsRow=true:=by unfold joinedFacts;rw[ZA,ZB,ZC,ZD,ZE,ZF,ZG,ZH,ZI,ZJ,Za,Zb,Zc,Zd,Ze,Zf,Zg,Zh,Zi,Zj,Zk,Zl,Zm,Zn,Zo,Zp,Zq,Zr];kernel_rfl
def named:Tryz.pinned.checked.prog.funcNamed Rows.topEndsRow.func=some 6:=by kernel_rfl
def XG:Tryz.f6.isInstance Tryz.pinned.checked.prog Rows.topEndsRow.origin Rows.topEndsRow.targs:=of_decide_eq_true (by kernel_rfl)
def XH:Tryz.f6.isWrapper Tryz.pinned.checked.prog Rows.topEndsRow.wrapper Rows.topEndsRow.mainSum:=by unfold Func.isWrapper;first | (rw[if_pos (by decide +kernel)];kernel_rfl) | (rw[if_neg (by decide +kernel)];exact⟨rfl,rfl⟩)
def Yh:Rows.topEndsRow.wfByText (OpenSpec.ofChange Rows.topEndsSpec)=true:=by kernel_rfl
def M0 : Tryz.pinned.checked.prog.mainIs = some (true, "0a64a7137f4d198caa5639d353744b9ce3e5842de8ad2b937f2d663ba31dc890".toList) := by kernel_rfl
def looks:false=Tryz.pinned.checked.prog.looks []:=by kernel_rfl
def YZ:false=Rows.topEndsRow.goesBy Tryz.pinned.checked.prog:=by kernel_rfl
end TopEndsRow
end Go.Proofs.YtcakfaakbpdklaaGreatDoor
