/-
  DERIVED. GIVEN WITH THE SEED: THE CARDS: each row of YtcakfaakbpdklaaGreatDoorRows.lean that lists a variable, with what it lists TIED to the program's text (the seventh form; the later family's looks); each row that meets fmt, with fmt's text TOLD by the authors' own Lean function (tested against real Go, not proved from fmt's source: count such statements apart). THE CARD IS WHAT COUNTS. Prove the row's statement (the work); the ties are given (YtcakfaakbpdklaaGreatDoorTie.lean); close each card by the builder's one call (the guide's Derived/Test/ToyasCard.lean, 'card_holds'). Laid BY PROGRAM, IN A SANDBOX (cutbox-door.mjs). By AI agents, Wed Nov 11 2026. No macro, syntax, notation, axiom, sorry.
-/
import Derived.Test.YtcakfaakbpdklaaGreatDoorRows
import GoSem.ClaimSeven
namespace Go.Proofs.YtcakfaakbpdklaaGreatDoor
namespace Rows

/-- THE TIED CARD OF 'scutagetop.TopLike'. -/
def topLikeCard : Claim7 := { stood := { row := topLikeRow, standIns := [], harness := (true, "0a64a7137f4d198caa5639d353744b9ce3e5842de8ad2b937f2d663ba31dc890"), looks := false }, kinds := [], alts := [], laidByText := true, laidKinds := [.data], laidTests := true, laidLooks := .later }
def TopLikeCardSaid : Prop := Claim7.holds Tryz.pinned (.plain (OpenSpec.ofChange topLikeSpec)) topLikeCard

/-- THE TIED CARD OF 'scutagetop.TopOwn'. -/
def topOwnCard : Claim7 := { stood := { row := topOwnRow, standIns := [], harness := (true, "0a64a7137f4d198caa5639d353744b9ce3e5842de8ad2b937f2d663ba31dc890"), looks := false }, kinds := [], alts := [], laidByText := true, laidKinds := [.data], laidTests := true, laidLooks := .later }
def TopOwnCardSaid : Prop := Claim7.holds Tryz.pinned (.plain (OpenSpec.ofChange topOwnSpec)) topOwnCard

/-- THE TIED CARD OF 'scutagetop.TopFrees'. -/
def topFreesCard : Claim7 := { stood := { row := topFreesRow, standIns := [], harness := (true, "0a64a7137f4d198caa5639d353744b9ce3e5842de8ad2b937f2d663ba31dc890"), looks := false }, kinds := [], alts := [], laidByText := true, laidKinds := [.data], laidTests := true, laidLooks := .later }
def TopFreesCardSaid : Prop := Claim7.holds Tryz.pinned (.plain (OpenSpec.ofChange topFreesSpec)) topFreesCard

/-- THE TIED CARD OF 'scutagetop.TopEnds'. -/
def topEndsCard : Claim7 := { stood := { row := topEndsRow, standIns := [], harness := (true, "0a64a7137f4d198caa5639d353744b9ce3e5842de8ad2b937f2d663ba31dc890"), looks := false }, kinds := [], alts := [], laidByText := true, laidKinds := [.data], laidTests := true, laidLooks := .later }
def TopEndsCardSaid : Prop := Claim7.holds Tryz.pinned (.plain (OpenSpec.ofChange topEndsSpec)) topEndsCard

/-- THE SECOND FORM's CARD OF 'scutagetop.TopLike'. -/
def topLikeUptoCard : Claim7 := { stood := { row := topLikeUptoRow, standIns := [], harness := (true, "0a64a7137f4d198caa5639d353744b9ce3e5842de8ad2b937f2d663ba31dc890"), looks := false }, kinds := [], alts := [], laidByText := true, laidKinds := [.data], laidTests := true, laidLooks := .later }
def TopLikeUptoCardSaid : Prop := Claim7.holds Tryz.pinned (.plain (OpenSpec.upto topLikeSpec)) topLikeUptoCard

/-- THE SECOND FORM's CARD OF 'scutagetop.TopOwn'. -/
def topOwnUptoCard : Claim7 := { stood := { row := topOwnUptoRow, standIns := [], harness := (true, "0a64a7137f4d198caa5639d353744b9ce3e5842de8ad2b937f2d663ba31dc890"), looks := false }, kinds := [], alts := [], laidByText := true, laidKinds := [.data], laidTests := true, laidLooks := .later }
def TopOwnUptoCardSaid : Prop := Claim7.holds Tryz.pinned (.plain (OpenSpec.upto topOwnSpec)) topOwnUptoCard

/-- THE SECOND FORM's CARD OF 'scutagetop.TopFrees'. -/
def topFreesUptoCard : Claim7 := { stood := { row := topFreesUptoRow, standIns := [], harness := (true, "0a64a7137f4d198caa5639d353744b9ce3e5842de8ad2b937f2d663ba31dc890"), looks := false }, kinds := [], alts := [], laidByText := true, laidKinds := [.data], laidTests := true, laidLooks := .later }
def TopFreesUptoCardSaid : Prop := Claim7.holds Tryz.pinned (.plain (OpenSpec.upto topFreesSpec)) topFreesUptoCard

/-- THE SECOND FORM's CARD OF 'scutagetop.TopEnds'. -/
def topEndsUptoCard : Claim7 := { stood := { row := topEndsUptoRow, standIns := [], harness := (true, "0a64a7137f4d198caa5639d353744b9ce3e5842de8ad2b937f2d663ba31dc890"), looks := false }, kinds := [], alts := [], laidByText := true, laidKinds := [.data], laidTests := true, laidLooks := .later }
def TopEndsUptoCardSaid : Prop := Claim7.holds Tryz.pinned (.plain (OpenSpec.upto topEndsSpec)) topEndsUptoCard
end Rows
end Go.Proofs.YtcakfaakbpdklaaGreatDoor
