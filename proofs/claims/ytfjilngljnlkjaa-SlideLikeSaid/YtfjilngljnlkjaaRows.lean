/-
  No cell of these rows narrows 'for every input' (looked for: loops, veiled, ifaces, maps, wideKeys, modest, calm, conditions, laid).
  DERIVED. THE GIVEN ROWS OF THIS SEAT. 7 by the template 'for every input the law returns true; each argument reads behind the call as it read before'; 0 by the template 'total and deterministic' (their statements: YtfjilngljnlkjaaTotals.lean).
  GIVEN WITH THE SEED: the statements are not yours to turn. If you find one false, say at which input.
  Laid BY PROGRAM, IN A SANDBOX (cutbox-rows.mjs): the forced cells as the released guide's own fill.sh prints them over the translation 3fcaea875f301280… (all of the seat's roots in one cut). By AI agents, Wed Nov 11 2026. No macro, syntax, notation, axiom, sorry.
-/
import Derived.Test.YtfjilngljnlkjaaChecked
import GoSem.Claim
import GoSem.ClaimJoined
import GoSem.ClaimMapViews
import Derived.JoinedTies
import Derived.KernelRfl
namespace Go.Proofs.Ytfjilngljnlkjaa
/- THE CELL 'sum', in the pinned program and in every row, IS THE sha256 OF THE DUMP (.gsa) THAT YtfjilngljnlkjaaProg.lean LOADS. Nothing in Lean hashes anything: it is a label: what it is worth is what the hold of that sum in a sandbox is worth. -/
noncomputable def Try.pinned : Pinned := { name := "ytfjilngljnlkjaa", sum := "3fcaea875f3012806e3f6ef397032a00ff7de28aa07d5f4817fca04251d2c5e3", checked := Try.checked }
namespace Rows
def none {H : Type} : Left H := { results := [], args := [] }

/-- 'scutagelaw37.EvacChecks': WHATEVER THE INPUT: true; the input reads as it did. -/
def evacChecksSpec : ChangeSpec := { name := "evacChecks", fn := fun _ => fun
  | [d] => { results := [.lit (.bool true)], args := [d] }
  | _ => none }
def evacChecksRow : OpenClaim := { program := "ytfjilngljnlkjaa", sum := "3fcaea875f3012806e3f6ef397032a00ff7de28aa07d5f4817fca04251d2c5e3", func := "scutage/scutagelaw37.EvacChecks", spec := "evacChecks", unfollowed := true, recurses := true, apart := false }
def EvacChecksSaid : Prop := evacChecksRow.holds Try.pinned (OpenSpec.ofChange evacChecksSpec)

/-- ITS FALSE NEIGHBOUR: 'it returns false'. Refute it at one input. -/
def evacChecksWrong : ChangeSpec := { name := "evacChecks", fn := fun _ => fun
  | [d] => { results := [.lit (.bool false)], args := [d] }
  | _ => none }
def EvacChecksWrongFalsely : Prop := evacChecksRow.holds Try.pinned (OpenSpec.ofChange evacChecksWrong)

/-- 'scutagelaw37.EvacCopies': WHATEVER THE INPUT: true; the input reads as it did. -/
def evacCopiesSpec : ChangeSpec := { name := "evacCopies", fn := fun _ => fun
  | [d1, d2] => { results := [.lit (.bool true)], args := [d1, d2] }
  | _ => none }
def evacCopiesRow : OpenClaim := { program := "ytfjilngljnlkjaa", sum := "3fcaea875f3012806e3f6ef397032a00ff7de28aa07d5f4817fca04251d2c5e3", func := "scutage/scutagelaw37.EvacCopies", spec := "evacCopies", unfollowed := true, recurses := true, apart := false }
def EvacCopiesSaid : Prop := evacCopiesRow.holds Try.pinned (OpenSpec.ofChange evacCopiesSpec)

/-- ITS FALSE NEIGHBOUR: 'it returns false'. Refute it at one input. -/
def evacCopiesWrong : ChangeSpec := { name := "evacCopies", fn := fun _ => fun
  | [d1, d2] => { results := [.lit (.bool false)], args := [d1, d2] }
  | _ => none }
def EvacCopiesWrongFalsely : Prop := evacCopiesRow.holds Try.pinned (OpenSpec.ofChange evacCopiesWrong)

/-- 'scutagelaw37.EvacViews': WHATEVER THE INPUT: true; the input reads as it did. -/
def evacViewsSpec : ChangeSpec := { name := "evacViews", fn := fun _ => fun
  | [d1, d2] => { results := [.lit (.bool true)], args := [d1, d2] }
  | _ => none }
def evacViewsRow : OpenClaim := { program := "ytfjilngljnlkjaa", sum := "3fcaea875f3012806e3f6ef397032a00ff7de28aa07d5f4817fca04251d2c5e3", func := "scutage/scutagelaw37.EvacViews", spec := "evacViews", unfollowed := true, recurses := true, apart := false }
def EvacViewsSaid : Prop := evacViewsRow.holds Try.pinned (OpenSpec.ofChange evacViewsSpec)

/-- ITS FALSE NEIGHBOUR: 'it returns false'. Refute it at one input. -/
def evacViewsWrong : ChangeSpec := { name := "evacViews", fn := fun _ => fun
  | [d1, d2] => { results := [.lit (.bool false)], args := [d1, d2] }
  | _ => none }
def EvacViewsWrongFalsely : Prop := evacViewsRow.holds Try.pinned (OpenSpec.ofChange evacViewsWrong)

/-- 'scutagelaw37.EvacAgain': WHATEVER THE INPUT: true; the input reads as it did. -/
def evacAgainSpec : ChangeSpec := { name := "evacAgain", fn := fun _ => fun
  | [d1, d2] => { results := [.lit (.bool true)], args := [d1, d2] }
  | _ => none }
def evacAgainRow : OpenClaim := { program := "ytfjilngljnlkjaa", sum := "3fcaea875f3012806e3f6ef397032a00ff7de28aa07d5f4817fca04251d2c5e3", func := "scutage/scutagelaw37.EvacAgain", spec := "evacAgain", unfollowed := true, recurses := true, apart := false }
def EvacAgainSaid : Prop := evacAgainRow.holds Try.pinned (OpenSpec.ofChange evacAgainSpec)

/-- ITS FALSE NEIGHBOUR: 'it returns false'. Refute it at one input. -/
def evacAgainWrong : ChangeSpec := { name := "evacAgain", fn := fun _ => fun
  | [d1, d2] => { results := [.lit (.bool false)], args := [d1, d2] }
  | _ => none }
def EvacAgainWrongFalsely : Prop := evacAgainRow.holds Try.pinned (OpenSpec.ofChange evacAgainWrong)

/-- 'scutagelaw38.SlideTells': WHATEVER THE INPUT: true; the input reads as it did. -/
def slideTellsSpec : ChangeSpec := { name := "slideTells", fn := fun _ => fun
  | [d1, d2] => { results := [.lit (.bool true)], args := [d1, d2] }
  | _ => none }
def slideTellsRow : OpenClaim := { program := "ytfjilngljnlkjaa", sum := "3fcaea875f3012806e3f6ef397032a00ff7de28aa07d5f4817fca04251d2c5e3", func := "scutage/scutagelaw38.SlideTells", spec := "slideTells", unfollowed := true, recurses := true, apart := false }
def SlideTellsSaid : Prop := slideTellsRow.holds Try.pinned (OpenSpec.ofChange slideTellsSpec)

/-- ITS FALSE NEIGHBOUR: 'it returns false'. Refute it at one input. -/
def slideTellsWrong : ChangeSpec := { name := "slideTells", fn := fun _ => fun
  | [d1, d2] => { results := [.lit (.bool false)], args := [d1, d2] }
  | _ => none }
def SlideTellsWrongFalsely : Prop := slideTellsRow.holds Try.pinned (OpenSpec.ofChange slideTellsWrong)

/-- 'scutagelaw38.SlideWhole': WHATEVER THE INPUT: true; the input reads as it did. -/
def slideWholeSpec : ChangeSpec := { name := "slideWhole", fn := fun _ => fun
  | [d] => { results := [.lit (.bool true)], args := [d] }
  | _ => none }
def slideWholeRow : OpenClaim := { program := "ytfjilngljnlkjaa", sum := "3fcaea875f3012806e3f6ef397032a00ff7de28aa07d5f4817fca04251d2c5e3", func := "scutage/scutagelaw38.SlideWhole", spec := "slideWhole", unfollowed := true, recurses := true, apart := false }
def SlideWholeSaid : Prop := slideWholeRow.holds Try.pinned (OpenSpec.ofChange slideWholeSpec)

/-- ITS FALSE NEIGHBOUR: 'it returns false'. Refute it at one input. -/
def slideWholeWrong : ChangeSpec := { name := "slideWhole", fn := fun _ => fun
  | [d] => { results := [.lit (.bool false)], args := [d] }
  | _ => none }
def SlideWholeWrongFalsely : Prop := slideWholeRow.holds Try.pinned (OpenSpec.ofChange slideWholeWrong)

/-- 'scutagelaw38.SlideLike': WHATEVER THE INPUT: true; the input reads as it did. -/
def slideLikeSpec : ChangeSpec := { name := "slideLike", fn := fun _ => fun
  | [d1, d2] => { results := [.lit (.bool true)], args := [d1, d2] }
  | _ => none }
def slideLikeRow : OpenClaim := { program := "ytfjilngljnlkjaa", sum := "3fcaea875f3012806e3f6ef397032a00ff7de28aa07d5f4817fca04251d2c5e3", func := "scutage/scutagelaw38.SlideLike", spec := "slideLike", unfollowed := true, recurses := true, apart := false }
def SlideLikeSaid : Prop := slideLikeRow.holds Try.pinned (OpenSpec.ofChange slideLikeSpec)

/-- ITS FALSE NEIGHBOUR: 'it returns false'. Refute it at one input. -/
def slideLikeWrong : ChangeSpec := { name := "slideLike", fn := fun _ => fun
  | [d1, d2] => { results := [.lit (.bool false)], args := [d1, d2] }
  | _ => none }
def SlideLikeWrongFalsely : Prop := slideLikeRow.holds Try.pinned (OpenSpec.ofChange slideLikeWrong)

/- THE SECOND FORM. 'bulk': how many values and letters a reading holds, each counted each time it is reached (what is shared counts as often as it is met; a slice's spare places count too). A statement '..UptoSaid' is the law's where the arguments, and the package variables that the reading takes, are together of bulk at most 1048576: NARROWER than '..Said'. Prove '..Said' where nothing that the law and all that it calls make is longer than what came in: it says more and counts as full. Else prove '..UptoSaid'. A law counts once. -/
mutual
def uptoBulk {H : Type} : DataW H → Nat
  | .lit (.string bytes) => bytes.length + 1
  | .lit _ => 1
  | .nil => 1
  | .ptr d => uptoBulk d + 1
  | .slice elems spare => uptoBulkAll elems + uptoBulkAll spare + 1
  | .agg parts => uptoBulkAll parts + 1
  | .iface _ d => uptoBulk d + 1
  | .map entries => uptoBulkEntries entries + 1
  | .held _ => 1
def uptoBulkAll {H : Type} : List (DataW H) → Nat
  | [] => 0
  | d :: r => uptoBulk d + uptoBulkAll r
def uptoBulkEntries {H : Type} : List (Lit × DataW H) → Nat
  | [] => 0
  | x :: r => uptoBulkEntry x + uptoBulkEntries r
def uptoBulkEntry {H : Type} : Lit × DataW H → Nat
  | (.string bytes, d) => bytes.length + uptoBulk d + 1
  | (_, d) => uptoBulk d + 1
 end
def uptoSmall : (H : Type) → List (DataW H) → Bool := fun _ ds => decide (uptoBulkAll ds ≤ 1048576)
def OpenSpec.upto (s : _root_.Go.ChangeSpec) : _root_.Go.OpenSpec := { _root_.Go.OpenSpec.ofChange s with cond := some uptoSmall }

/-- 'scutagelaw37.EvacChecks', WHERE WHAT IT READS IS OF BULK AT MOST 1048576: true; the input reads as it did. -/
def evacChecksUptoRow : OpenClaim := { program := "ytfjilngljnlkjaa", sum := "3fcaea875f3012806e3f6ef397032a00ff7de28aa07d5f4817fca04251d2c5e3", func := "scutage/scutagelaw37.EvacChecks", spec := "evacChecks", unfollowed := true, recurses := true, apart := false, narrowed := true }
def EvacChecksUptoSaid : Prop := evacChecksUptoRow.holds Try.pinned (OpenSpec.upto evacChecksSpec)

/-- 'scutagelaw37.EvacCopies', WHERE WHAT IT READS IS OF BULK AT MOST 1048576: true; the input reads as it did. -/
def evacCopiesUptoRow : OpenClaim := { program := "ytfjilngljnlkjaa", sum := "3fcaea875f3012806e3f6ef397032a00ff7de28aa07d5f4817fca04251d2c5e3", func := "scutage/scutagelaw37.EvacCopies", spec := "evacCopies", unfollowed := true, recurses := true, apart := false, narrowed := true }
def EvacCopiesUptoSaid : Prop := evacCopiesUptoRow.holds Try.pinned (OpenSpec.upto evacCopiesSpec)

/-- 'scutagelaw37.EvacViews', WHERE WHAT IT READS IS OF BULK AT MOST 1048576: true; the input reads as it did. -/
def evacViewsUptoRow : OpenClaim := { program := "ytfjilngljnlkjaa", sum := "3fcaea875f3012806e3f6ef397032a00ff7de28aa07d5f4817fca04251d2c5e3", func := "scutage/scutagelaw37.EvacViews", spec := "evacViews", unfollowed := true, recurses := true, apart := false, narrowed := true }
def EvacViewsUptoSaid : Prop := evacViewsUptoRow.holds Try.pinned (OpenSpec.upto evacViewsSpec)

/-- 'scutagelaw37.EvacAgain', WHERE WHAT IT READS IS OF BULK AT MOST 1048576: true; the input reads as it did. -/
def evacAgainUptoRow : OpenClaim := { program := "ytfjilngljnlkjaa", sum := "3fcaea875f3012806e3f6ef397032a00ff7de28aa07d5f4817fca04251d2c5e3", func := "scutage/scutagelaw37.EvacAgain", spec := "evacAgain", unfollowed := true, recurses := true, apart := false, narrowed := true }
def EvacAgainUptoSaid : Prop := evacAgainUptoRow.holds Try.pinned (OpenSpec.upto evacAgainSpec)

/-- 'scutagelaw38.SlideTells', WHERE WHAT IT READS IS OF BULK AT MOST 1048576: true; the input reads as it did. -/
def slideTellsUptoRow : OpenClaim := { program := "ytfjilngljnlkjaa", sum := "3fcaea875f3012806e3f6ef397032a00ff7de28aa07d5f4817fca04251d2c5e3", func := "scutage/scutagelaw38.SlideTells", spec := "slideTells", unfollowed := true, recurses := true, apart := false, narrowed := true }
def SlideTellsUptoSaid : Prop := slideTellsUptoRow.holds Try.pinned (OpenSpec.upto slideTellsSpec)

/-- 'scutagelaw38.SlideWhole', WHERE WHAT IT READS IS OF BULK AT MOST 1048576: true; the input reads as it did. -/
def slideWholeUptoRow : OpenClaim := { program := "ytfjilngljnlkjaa", sum := "3fcaea875f3012806e3f6ef397032a00ff7de28aa07d5f4817fca04251d2c5e3", func := "scutage/scutagelaw38.SlideWhole", spec := "slideWhole", unfollowed := true, recurses := true, apart := false, narrowed := true }
def SlideWholeUptoSaid : Prop := slideWholeUptoRow.holds Try.pinned (OpenSpec.upto slideWholeSpec)

/-- 'scutagelaw38.SlideLike', WHERE WHAT IT READS IS OF BULK AT MOST 1048576: true; the input reads as it did. -/
def slideLikeUptoRow : OpenClaim := { program := "ytfjilngljnlkjaa", sum := "3fcaea875f3012806e3f6ef397032a00ff7de28aa07d5f4817fca04251d2c5e3", func := "scutage/scutagelaw38.SlideLike", spec := "slideLike", unfollowed := true, recurses := true, apart := false, narrowed := true }
def SlideLikeUptoSaid : Prop := slideLikeUptoRow.holds Try.pinned (OpenSpec.upto slideLikeSpec)

end Rows
end Go.Proofs.Ytfjilngljnlkjaa
