/-
  No cell of these rows narrows 'for every input' (looked for: loops, veiled, ifaces, maps, wideKeys, modest, calm, conditions, laid).
  DERIVED. THE GIVEN ROWS OF THIS SEAT. 10 by the template 'for every input the law returns true; each argument reads behind the call as it read before'; 0 by the template 'total and deterministic' (their statements: YtfdpmgddlaamcaaTotals.lean).
  GIVEN WITH THE SEED: the statements are not yours to turn. If you find one false, say at which input.
  Laid BY PROGRAM, IN A SANDBOX (cutbox-rows.mjs): the forced cells as the released guide's own fill.sh prints them over the translation 4c176a4239cb5df0… (all of the seat's roots in one cut). By AI agents, Wed Nov 11 2026. No macro, syntax, notation, axiom, sorry.
-/
import Derived.Test.YtfdpmgddlaamcaaChecked
import GoSem.Claim
import GoSem.ClaimJoined
import GoSem.ClaimMapViews
import Derived.JoinedTies
import Derived.KernelRfl
namespace Go.Proofs.Ytfdpmgddlaamcaa
/- THE CELL 'sum', in the pinned program and in every row, IS THE sha256 OF THE DUMP (.gsa) THAT YtfdpmgddlaamcaaProg.lean LOADS. Nothing in Lean hashes anything: it is a label: what it is worth is what the hold of that sum in a sandbox is worth. -/
noncomputable def Try.pinned : Pinned := { name := "ytfdpmgddlaamcaa", sum := "4c176a4239cb5df0e69234bac88c7b4744c76637f9d39b402ca1fbd4197db60d", checked := Try.checked }
namespace Rows
def none {H : Type} : Left H := { results := [], args := [] }

/-- 'scutagelaw12.CacheRuns': WHATEVER THE INPUT: true; the input reads as it did. -/
def cacheRunsSpec : ChangeSpec := { name := "cacheRuns", fn := fun _ => fun
  | [d1, d2] => { results := [.lit (.bool true)], args := [d1, d2] }
  | _ => none }
def cacheRunsRow : OpenClaim := { program := "ytfdpmgddlaamcaa", sum := "4c176a4239cb5df0e69234bac88c7b4744c76637f9d39b402ca1fbd4197db60d", func := "scutage/scutagelaw12.CacheRuns", spec := "cacheRuns", unfollowed := true, recurses := true, plainKeys := false, apart := false }
def CacheRunsSaid : Prop := cacheRunsRow.holds Try.pinned (OpenSpec.ofChange cacheRunsSpec)

/-- ITS FALSE NEIGHBOUR: 'it returns false'. Refute it at one input. -/
def cacheRunsWrong : ChangeSpec := { name := "cacheRuns", fn := fun _ => fun
  | [d1, d2] => { results := [.lit (.bool false)], args := [d1, d2] }
  | _ => none }
def CacheRunsWrongFalsely : Prop := cacheRunsRow.holds Try.pinned (OpenSpec.ofChange cacheRunsWrong)

/-- 'scutagelaw12.CacheOne': WHATEVER THE INPUT: true; the input reads as it did. -/
def cacheOneSpec : ChangeSpec := { name := "cacheOne", fn := fun _ => fun
  | [d1, d2, d3, d4, d5] => { results := [.lit (.bool true)], args := [d1, d2, d3, d4, d5] }
  | _ => none }
def cacheOneRow : OpenClaim := { program := "ytfdpmgddlaamcaa", sum := "4c176a4239cb5df0e69234bac88c7b4744c76637f9d39b402ca1fbd4197db60d", func := "scutage/scutagelaw12.CacheOne", spec := "cacheOne", unfollowed := true, recurses := true, plainKeys := false, apart := false }
def CacheOneSaid : Prop := cacheOneRow.holds Try.pinned (OpenSpec.ofChange cacheOneSpec)

/-- ITS FALSE NEIGHBOUR: 'it returns false'. Refute it at one input. -/
def cacheOneWrong : ChangeSpec := { name := "cacheOne", fn := fun _ => fun
  | [d1, d2, d3, d4, d5] => { results := [.lit (.bool false)], args := [d1, d2, d3, d4, d5] }
  | _ => none }
def CacheOneWrongFalsely : Prop := cacheOneRow.holds Try.pinned (OpenSpec.ofChange cacheOneWrong)

/-- 'scutagelaw12.CacheClones': WHATEVER THE INPUT: true; the input reads as it did. -/
def cacheClonesSpec : ChangeSpec := { name := "cacheClones", fn := fun _ => fun
  | [d1, d2, d3, d4] => { results := [.lit (.bool true)], args := [d1, d2, d3, d4] }
  | _ => none }
def cacheClonesRow : OpenClaim := { program := "ytfdpmgddlaamcaa", sum := "4c176a4239cb5df0e69234bac88c7b4744c76637f9d39b402ca1fbd4197db60d", func := "scutage/scutagelaw12.CacheClones", spec := "cacheClones", inPlace := ["maps.clone"], unfollowed := true, recurses := true, plainKeys := false, apart := false }
def CacheClonesSaid : Prop := cacheClonesRow.holds Try.pinned (OpenSpec.ofChange cacheClonesSpec)

/-- ITS FALSE NEIGHBOUR: 'it returns false'. Refute it at one input. -/
def cacheClonesWrong : ChangeSpec := { name := "cacheClones", fn := fun _ => fun
  | [d1, d2, d3, d4] => { results := [.lit (.bool false)], args := [d1, d2, d3, d4] }
  | _ => none }
def CacheClonesWrongFalsely : Prop := cacheClonesRow.holds Try.pinned (OpenSpec.ofChange cacheClonesWrong)

/-- 'scutagelaw27.ViewChecks': WHATEVER THE INPUT: true; the input reads as it did. -/
def viewChecksSpec : ChangeSpec := { name := "viewChecks", fn := fun _ => fun
  | [d] => { results := [.lit (.bool true)], args := [d] }
  | _ => none }
def viewChecksRow : OpenClaim := { program := "ytfdpmgddlaamcaa", sum := "4c176a4239cb5df0e69234bac88c7b4744c76637f9d39b402ca1fbd4197db60d", func := "scutage/scutagelaw27.ViewChecks", spec := "viewChecks", unfollowed := true, recurses := true, plainKeys := false, apart := false }
def ViewChecksSaid : Prop := viewChecksRow.holds Try.pinned (OpenSpec.ofChange viewChecksSpec)

/-- ITS FALSE NEIGHBOUR: 'it returns false'. Refute it at one input. -/
def viewChecksWrong : ChangeSpec := { name := "viewChecks", fn := fun _ => fun
  | [d] => { results := [.lit (.bool false)], args := [d] }
  | _ => none }
def ViewChecksWrongFalsely : Prop := viewChecksRow.holds Try.pinned (OpenSpec.ofChange viewChecksWrong)

/-- 'scutagelaw27.ViewReaches': WHATEVER THE INPUT: true; the input reads as it did. -/
def viewReachesSpec : ChangeSpec := { name := "viewReaches", fn := fun _ => fun
  | [d] => { results := [.lit (.bool true)], args := [d] }
  | _ => none }
def viewReachesRow : OpenClaim := { program := "ytfdpmgddlaamcaa", sum := "4c176a4239cb5df0e69234bac88c7b4744c76637f9d39b402ca1fbd4197db60d", func := "scutage/scutagelaw27.ViewReaches", spec := "viewReaches", unfollowed := true, recurses := true, plainKeys := false, apart := false }
def ViewReachesSaid : Prop := viewReachesRow.holds Try.pinned (OpenSpec.ofChange viewReachesSpec)

/-- ITS FALSE NEIGHBOUR: 'it returns false'. Refute it at one input. -/
def viewReachesWrong : ChangeSpec := { name := "viewReaches", fn := fun _ => fun
  | [d] => { results := [.lit (.bool false)], args := [d] }
  | _ => none }
def ViewReachesWrongFalsely : Prop := viewReachesRow.holds Try.pinned (OpenSpec.ofChange viewReachesWrong)

/-- 'scutagelaw27.ViewTells': WHATEVER THE INPUT: true; the input reads as it did. -/
def viewTellsSpec : ChangeSpec := { name := "viewTells", fn := fun _ => fun
  | [d1, d2, d3] => { results := [.lit (.bool true)], args := [d1, d2, d3] }
  | _ => none }
def viewTellsRow : OpenClaim := { program := "ytfdpmgddlaamcaa", sum := "4c176a4239cb5df0e69234bac88c7b4744c76637f9d39b402ca1fbd4197db60d", func := "scutage/scutagelaw27.ViewTells", spec := "viewTells", unfollowed := true, recurses := true, plainKeys := false, apart := false }
def ViewTellsSaid : Prop := viewTellsRow.holds Try.pinned (OpenSpec.ofChange viewTellsSpec)

/-- ITS FALSE NEIGHBOUR: 'it returns false'. Refute it at one input. -/
def viewTellsWrong : ChangeSpec := { name := "viewTells", fn := fun _ => fun
  | [d1, d2, d3] => { results := [.lit (.bool false)], args := [d1, d2, d3] }
  | _ => none }
def ViewTellsWrongFalsely : Prop := viewTellsRow.holds Try.pinned (OpenSpec.ofChange viewTellsWrong)

/-- 'scutagelaw27.ViewOwn': WHATEVER THE INPUT: true; the input reads as it did. -/
def viewOwnSpec : ChangeSpec := { name := "viewOwn", fn := fun _ => fun
  | [d1, d2] => { results := [.lit (.bool true)], args := [d1, d2] }
  | _ => none }
def viewOwnRow : OpenClaim := { program := "ytfdpmgddlaamcaa", sum := "4c176a4239cb5df0e69234bac88c7b4744c76637f9d39b402ca1fbd4197db60d", func := "scutage/scutagelaw27.ViewOwn", spec := "viewOwn", unfollowed := true, recurses := true, plainKeys := false, apart := false }
def ViewOwnSaid : Prop := viewOwnRow.holds Try.pinned (OpenSpec.ofChange viewOwnSpec)

/-- ITS FALSE NEIGHBOUR: 'it returns false'. Refute it at one input. -/
def viewOwnWrong : ChangeSpec := { name := "viewOwn", fn := fun _ => fun
  | [d1, d2] => { results := [.lit (.bool false)], args := [d1, d2] }
  | _ => none }
def ViewOwnWrongFalsely : Prop := viewOwnRow.holds Try.pinned (OpenSpec.ofChange viewOwnWrong)

/-- 'scutagelaw38.SlideTells': WHATEVER THE INPUT: true; the input reads as it did. -/
def slideTellsSpec : ChangeSpec := { name := "slideTells", fn := fun _ => fun
  | [d1, d2] => { results := [.lit (.bool true)], args := [d1, d2] }
  | _ => none }
def slideTellsRow : OpenClaim := { program := "ytfdpmgddlaamcaa", sum := "4c176a4239cb5df0e69234bac88c7b4744c76637f9d39b402ca1fbd4197db60d", func := "scutage/scutagelaw38.SlideTells", spec := "slideTells", unfollowed := true, recurses := true, plainKeys := false, apart := false }
def SlideTellsSaid : Prop := slideTellsRow.holds Try.pinned (OpenSpec.ofChange slideTellsSpec)

/-- ITS FALSE NEIGHBOUR: 'it returns false'. Refute it at one input. -/
def slideTellsWrong : ChangeSpec := { name := "slideTells", fn := fun _ => fun
  | [d1, d2] => { results := [.lit (.bool false)], args := [d1, d2] }
  | _ => none }
def SlideTellsWrongFalsely : Prop := slideTellsRow.holds Try.pinned (OpenSpec.ofChange slideTellsWrong)

/-- 'scutagelaw38.SlideWhole': WHATEVER THE INPUT: true; the input reads as it did. -/
def slideWholeSpec : ChangeSpec := { name := "slideWhole", fn := fun _ => fun
  | [d] => { results := [.lit (.bool true)], args := [d] }
  | _ => none }
def slideWholeRow : OpenClaim := { program := "ytfdpmgddlaamcaa", sum := "4c176a4239cb5df0e69234bac88c7b4744c76637f9d39b402ca1fbd4197db60d", func := "scutage/scutagelaw38.SlideWhole", spec := "slideWhole", unfollowed := true, recurses := true, plainKeys := false, apart := false }
def SlideWholeSaid : Prop := slideWholeRow.holds Try.pinned (OpenSpec.ofChange slideWholeSpec)

/-- ITS FALSE NEIGHBOUR: 'it returns false'. Refute it at one input. -/
def slideWholeWrong : ChangeSpec := { name := "slideWhole", fn := fun _ => fun
  | [d] => { results := [.lit (.bool false)], args := [d] }
  | _ => none }
def SlideWholeWrongFalsely : Prop := slideWholeRow.holds Try.pinned (OpenSpec.ofChange slideWholeWrong)

/-- 'scutagelaw38.SlideLike': WHATEVER THE INPUT: true; the input reads as it did. -/
def slideLikeSpec : ChangeSpec := { name := "slideLike", fn := fun _ => fun
  | [d1, d2] => { results := [.lit (.bool true)], args := [d1, d2] }
  | _ => none }
def slideLikeRow : OpenClaim := { program := "ytfdpmgddlaamcaa", sum := "4c176a4239cb5df0e69234bac88c7b4744c76637f9d39b402ca1fbd4197db60d", func := "scutage/scutagelaw38.SlideLike", spec := "slideLike", unfollowed := true, recurses := true, plainKeys := false, apart := false }
def SlideLikeSaid : Prop := slideLikeRow.holds Try.pinned (OpenSpec.ofChange slideLikeSpec)

/-- ITS FALSE NEIGHBOUR: 'it returns false'. Refute it at one input. -/
def slideLikeWrong : ChangeSpec := { name := "slideLike", fn := fun _ => fun
  | [d1, d2] => { results := [.lit (.bool false)], args := [d1, d2] }
  | _ => none }
def SlideLikeWrongFalsely : Prop := slideLikeRow.holds Try.pinned (OpenSpec.ofChange slideLikeWrong)

/- THE SECOND FORM. 'bulk': how many values and letters a reading holds, each counted each time it is reached (what is shared counts as often as it is met; a slice's spare places count too). A statement '..UptoSaid' is the law's where the arguments, and the package variables that the reading takes, are together of bulk at most 1048576: NARROWER than '..Said'. Prove '..Said' where nothing that the law and all that it calls make is longer than what came in: it says more and counts as full. Else prove '..UptoSaid'. A law counts once. -/
mutual
def uptoBulk {H : Type} : DataW H → Nat
  | .lit (.string bytes) => bytes.length + 1
  | .lit _ => 1
  | .nil => 1
  | .ptr d => uptoBulk d + 1
  | .slice elems spare => uptoBulkAll elems + uptoBulkAll spare + 1
  | .agg parts => uptoBulkAll parts + 1
  | .iface _ d => uptoBulk d + 1
  | .map entries => uptoBulkEntries entries + 1
  | .held _ => 1
def uptoBulkAll {H : Type} : List (DataW H) → Nat
  | [] => 0
  | d :: r => uptoBulk d + uptoBulkAll r
def uptoBulkEntries {H : Type} : List (Lit × DataW H) → Nat
  | [] => 0
  | x :: r => uptoBulkEntry x + uptoBulkEntries r
def uptoBulkEntry {H : Type} : Lit × DataW H → Nat
  | (.string bytes, d) => bytes.length + uptoBulk d + 1
  | (_, d) => uptoBulk d + 1
 end
def uptoSmall : (H : Type) → List (DataW H) → Bool := fun _ ds => decide (uptoBulkAll ds ≤ 1048576)
def OpenSpec.upto (s : _root_.Go.ChangeSpec) : _root_.Go.OpenSpec := { _root_.Go.OpenSpec.ofChange s with cond := some uptoSmall }

/-- 'scutagelaw12.CacheRuns', WHERE WHAT IT READS IS OF BULK AT MOST 1048576: true; the input reads as it did. -/
def cacheRunsUptoRow : OpenClaim := { program := "ytfdpmgddlaamcaa", sum := "4c176a4239cb5df0e69234bac88c7b4744c76637f9d39b402ca1fbd4197db60d", func := "scutage/scutagelaw12.CacheRuns", spec := "cacheRuns", unfollowed := true, recurses := true, plainKeys := false, apart := false, narrowed := true }
def CacheRunsUptoSaid : Prop := cacheRunsUptoRow.holds Try.pinned (OpenSpec.upto cacheRunsSpec)

/-- 'scutagelaw12.CacheOne', WHERE WHAT IT READS IS OF BULK AT MOST 1048576: true; the input reads as it did. -/
def cacheOneUptoRow : OpenClaim := { program := "ytfdpmgddlaamcaa", sum := "4c176a4239cb5df0e69234bac88c7b4744c76637f9d39b402ca1fbd4197db60d", func := "scutage/scutagelaw12.CacheOne", spec := "cacheOne", unfollowed := true, recurses := true, plainKeys := false, apart := false, narrowed := true }
def CacheOneUptoSaid : Prop := cacheOneUptoRow.holds Try.pinned (OpenSpec.upto cacheOneSpec)

/-- 'scutagelaw12.CacheClones', WHERE WHAT IT READS IS OF BULK AT MOST 1048576: true; the input reads as it did. -/
def cacheClonesUptoRow : OpenClaim := { program := "ytfdpmgddlaamcaa", sum := "4c176a4239cb5df0e69234bac88c7b4744c76637f9d39b402ca1fbd4197db60d", func := "scutage/scutagelaw12.CacheClones", spec := "cacheClones", inPlace := ["maps.clone"], unfollowed := true, recurses := true, plainKeys := false, apart := false, narrowed := true }
def CacheClonesUptoSaid : Prop := cacheClonesUptoRow.holds Try.pinned (OpenSpec.upto cacheClonesSpec)

/-- 'scutagelaw27.ViewChecks', WHERE WHAT IT READS IS OF BULK AT MOST 1048576: true; the input reads as it did. -/
def viewChecksUptoRow : OpenClaim := { program := "ytfdpmgddlaamcaa", sum := "4c176a4239cb5df0e69234bac88c7b4744c76637f9d39b402ca1fbd4197db60d", func := "scutage/scutagelaw27.ViewChecks", spec := "viewChecks", unfollowed := true, recurses := true, plainKeys := false, apart := false, narrowed := true }
def ViewChecksUptoSaid : Prop := viewChecksUptoRow.holds Try.pinned (OpenSpec.upto viewChecksSpec)

/-- 'scutagelaw27.ViewReaches', WHERE WHAT IT READS IS OF BULK AT MOST 1048576: true; the input reads as it did. -/
def viewReachesUptoRow : OpenClaim := { program := "ytfdpmgddlaamcaa", sum := "4c176a4239cb5df0e69234bac88c7b4744c76637f9d39b402ca1fbd4197db60d", func := "scutage/scutagelaw27.ViewReaches", spec := "viewReaches", unfollowed := true, recurses := true, plainKeys := false, apart := false, narrowed := true }
def ViewReachesUptoSaid : Prop := viewReachesUptoRow.holds Try.pinned (OpenSpec.upto viewReachesSpec)

/-- 'scutagelaw27.ViewTells', WHERE WHAT IT READS IS OF BULK AT MOST 1048576: true; the input reads as it did. -/
def viewTellsUptoRow : OpenClaim := { program := "ytfdpmgddlaamcaa", sum := "4c176a4239cb5df0e69234bac88c7b4744c76637f9d39b402ca1fbd4197db60d", func := "scutage/scutagelaw27.ViewTells", spec := "viewTells", unfollowed := true, recurses := true, plainKeys := false, apart := false, narrowed := true }
def ViewTellsUptoSaid : Prop := viewTellsUptoRow.holds Try.pinned (OpenSpec.upto viewTellsSpec)

/-- 'scutagelaw27.ViewOwn', WHERE WHAT IT READS IS OF BULK AT MOST 1048576: true; the input reads as it did. -/
def viewOwnUptoRow : OpenClaim := { program := "ytfdpmgddlaamcaa", sum := "4c176a4239cb5df0e69234bac88c7b4744c76637f9d39b402ca1fbd4197db60d", func := "scutage/scutagelaw27.ViewOwn", spec := "viewOwn", unfollowed := true, recurses := true, plainKeys := false, apart := false, narrowed := true }
def ViewOwnUptoSaid : Prop := viewOwnUptoRow.holds Try.pinned (OpenSpec.upto viewOwnSpec)

/-- 'scutagelaw38.SlideTells', WHERE WHAT IT READS IS OF BULK AT MOST 1048576: true; the input reads as it did. -/
def slideTellsUptoRow : OpenClaim := { program := "ytfdpmgddlaamcaa", sum := "4c176a4239cb5df0e69234bac88c7b4744c76637f9d39b402ca1fbd4197db60d", func := "scutage/scutagelaw38.SlideTells", spec := "slideTells", unfollowed := true, recurses := true, plainKeys := false, apart := false, narrowed := true }
def SlideTellsUptoSaid : Prop := slideTellsUptoRow.holds Try.pinned (OpenSpec.upto slideTellsSpec)

/-- 'scutagelaw38.SlideWhole', WHERE WHAT IT READS IS OF BULK AT MOST 1048576: true; the input reads as it did. -/
def slideWholeUptoRow : OpenClaim := { program := "ytfdpmgddlaamcaa", sum := "4c176a4239cb5df0e69234bac88c7b4744c76637f9d39b402ca1fbd4197db60d", func := "scutage/scutagelaw38.SlideWhole", spec := "slideWhole", unfollowed := true, recurses := true, plainKeys := false, apart := false, narrowed := true }
def SlideWholeUptoSaid : Prop := slideWholeUptoRow.holds Try.pinned (OpenSpec.upto slideWholeSpec)

/-- 'scutagelaw38.SlideLike', WHERE WHAT IT READS IS OF BULK AT MOST 1048576: true; the input reads as it did. -/
def slideLikeUptoRow : OpenClaim := { program := "ytfdpmgddlaamcaa", sum := "4c176a4239cb5df0e69234bac88c7b4744c76637f9d39b402ca1fbd4197db60d", func := "scutage/scutagelaw38.SlideLike", spec := "slideLike", unfollowed := true, recurses := true, plainKeys := false, apart := false, narrowed := true }
def SlideLikeUptoSaid : Prop := slideLikeUptoRow.holds Try.pinned (OpenSpec.upto slideLikeSpec)

end Rows
end Go.Proofs.Ytfdpmgddlaamcaa
