/-
  No cell of these rows narrows 'for every input' (looked for: loops, veiled, ifaces, maps, wideKeys, modest, calm, conditions, laid).
  DERIVED. THE GIVEN ROWS OF THIS SEAT. 4 by the template 'for every input the law returns true; each argument reads behind the call as it read before'; 0 by the template 'total and deterministic' (their statements: YtchonfdnghimdaaTotals.lean).
  GIVEN WITH THE SEED: the statements are not yours to turn. If you find one false, say at which input.
  Laid BY PROGRAM, IN A SANDBOX (cutbox-rows.mjs): the forced cells as the released guide's own fill.sh prints them over the translation 427f2c84f0453eb1… (all of the seat's roots in one cut). By AI agents, Wed Nov 11 2026. No macro, syntax, notation, axiom, sorry.
-/
import Derived.Test.YtchonfdnghimdaaChecked
import GoSem.Claim
import GoSem.ClaimJoined
import GoSem.ClaimMapViews
import Derived.JoinedTies
import Derived.KernelRfl
namespace Go.Proofs.Ytchonfdnghimdaa
/- THE CELL 'sum', in the pinned program and in every row, IS THE sha256 OF THE DUMP (.gsa) THAT YtchonfdnghimdaaProg.lean LOADS. Nothing in Lean hashes anything: it is a label: what it is worth is what the hold of that sum in a sandbox is worth. -/
noncomputable def Try.pinned : Pinned := { name := "ytchonfdnghimdaa", sum := "427f2c84f0453eb12f29dcff24f984e9031e0ca671452cc01dc1f914c18f1e4d", checked := Try.checked }
namespace Rows
def none {H : Type} : Left H := { results := [], args := [] }

/-- 'scutagelaw34.SccParts': WHATEVER THE INPUT: true; the input reads as it did. -/
def sccPartsSpec : ChangeSpec := { name := "sccParts", fn := fun _ => fun
  | [d] => { results := [.lit (.bool true)], args := [d] }
  | _ => none }
def sccPartsRow : OpenClaim := { program := "ytchonfdnghimdaa", sum := "427f2c84f0453eb12f29dcff24f984e9031e0ca671452cc01dc1f914c18f1e4d", func := "scutage/scutagelaw34.SccParts", spec := "sccParts", unfollowed := true, recurses := true, apart := false }
def SccPartsSaid : Prop := sccPartsRow.holds Try.pinned (OpenSpec.ofChange sccPartsSpec)

/-- ITS FALSE NEIGHBOUR: 'it returns false'. Refute it at one input. -/
def sccPartsWrong : ChangeSpec := { name := "sccParts", fn := fun _ => fun
  | [d] => { results := [.lit (.bool false)], args := [d] }
  | _ => none }
def SccPartsWrongFalsely : Prop := sccPartsRow.holds Try.pinned (OpenSpec.ofChange sccPartsWrong)

/-- 'scutagelaw34.SccRings': WHATEVER THE INPUT: true; the input reads as it did. -/
def sccRingsSpec : ChangeSpec := { name := "sccRings", fn := fun _ => fun
  | [d1, d2, d3] => { results := [.lit (.bool true)], args := [d1, d2, d3] }
  | _ => none }
def sccRingsRow : OpenClaim := { program := "ytchonfdnghimdaa", sum := "427f2c84f0453eb12f29dcff24f984e9031e0ca671452cc01dc1f914c18f1e4d", func := "scutage/scutagelaw34.SccRings", spec := "sccRings", unfollowed := true, recurses := true, apart := false }
def SccRingsSaid : Prop := sccRingsRow.holds Try.pinned (OpenSpec.ofChange sccRingsSpec)

/-- ITS FALSE NEIGHBOUR: 'it returns false'. Refute it at one input. -/
def sccRingsWrong : ChangeSpec := { name := "sccRings", fn := fun _ => fun
  | [d1, d2, d3] => { results := [.lit (.bool false)], args := [d1, d2, d3] }
  | _ => none }
def SccRingsWrongFalsely : Prop := sccRingsRow.holds Try.pinned (OpenSpec.ofChange sccRingsWrong)

/-- 'scutagelaw34.SccOrders': WHATEVER THE INPUT: true; the input reads as it did. -/
def sccOrdersSpec : ChangeSpec := { name := "sccOrders", fn := fun _ => fun
  | [d] => { results := [.lit (.bool true)], args := [d] }
  | _ => none }
def sccOrdersRow : OpenClaim := { program := "ytchonfdnghimdaa", sum := "427f2c84f0453eb12f29dcff24f984e9031e0ca671452cc01dc1f914c18f1e4d", func := "scutage/scutagelaw34.SccOrders", spec := "sccOrders", unfollowed := true, recurses := true, apart := false }
def SccOrdersSaid : Prop := sccOrdersRow.holds Try.pinned (OpenSpec.ofChange sccOrdersSpec)

/-- ITS FALSE NEIGHBOUR: 'it returns false'. Refute it at one input. -/
def sccOrdersWrong : ChangeSpec := { name := "sccOrders", fn := fun _ => fun
  | [d] => { results := [.lit (.bool false)], args := [d] }
  | _ => none }
def SccOrdersWrongFalsely : Prop := sccOrdersRow.holds Try.pinned (OpenSpec.ofChange sccOrdersWrong)

/-- 'scutagelaw35.RefsLeaks': WHATEVER THE INPUT: true; the input reads as it did. -/
def refsLeaksSpec : ChangeSpec := { name := "refsLeaks", fn := fun _ => fun
  | [d] => { results := [.lit (.bool true)], args := [d] }
  | _ => none }
def refsLeaksRow : OpenClaim := { program := "ytchonfdnghimdaa", sum := "427f2c84f0453eb12f29dcff24f984e9031e0ca671452cc01dc1f914c18f1e4d", func := "scutage/scutagelaw35.RefsLeaks", spec := "refsLeaks", unfollowed := true, recurses := true, apart := false }
def RefsLeaksSaid : Prop := refsLeaksRow.holds Try.pinned (OpenSpec.ofChange refsLeaksSpec)

/-- ITS FALSE NEIGHBOUR: 'it returns false'. Refute it at one input. -/
def refsLeaksWrong : ChangeSpec := { name := "refsLeaks", fn := fun _ => fun
  | [d] => { results := [.lit (.bool false)], args := [d] }
  | _ => none }
def RefsLeaksWrongFalsely : Prop := refsLeaksRow.holds Try.pinned (OpenSpec.ofChange refsLeaksWrong)

/- THE SECOND FORM. 'bulk': how many values and letters a reading holds, each counted each time it is reached (what is shared counts as often as it is met; a slice's spare places count too). A statement '..UptoSaid' is the law's where the arguments, and the package variables that the reading takes, are together of bulk at most 1048576: NARROWER than '..Said'. Prove '..Said' where nothing that the law and all that it calls make is longer than what came in: it says more and counts as full. Else prove '..UptoSaid'. A law counts once. -/
mutual
def uptoBulk {H : Type} : DataW H → Nat
  | .lit (.string bytes) => bytes.length + 1
  | .lit _ => 1
  | .nil => 1
  | .ptr d => uptoBulk d + 1
  | .slice elems spare => uptoBulkAll elems + uptoBulkAll spare + 1
  | .agg parts => uptoBulkAll parts + 1
  | .iface _ d => uptoBulk d + 1
  | .map entries => uptoBulkEntries entries + 1
  | .held _ => 1
def uptoBulkAll {H : Type} : List (DataW H) → Nat
  | [] => 0
  | d :: r => uptoBulk d + uptoBulkAll r
def uptoBulkEntries {H : Type} : List (Lit × DataW H) → Nat
  | [] => 0
  | x :: r => uptoBulkEntry x + uptoBulkEntries r
def uptoBulkEntry {H : Type} : Lit × DataW H → Nat
  | (.string bytes, d) => bytes.length + uptoBulk d + 1
  | (_, d) => uptoBulk d + 1
 end
def uptoSmall : (H : Type) → List (DataW H) → Bool := fun _ ds => decide (uptoBulkAll ds ≤ 1048576)
def OpenSpec.upto (s : _root_.Go.ChangeSpec) : _root_.Go.OpenSpec := { _root_.Go.OpenSpec.ofChange s with cond := some uptoSmall }

/-- 'scutagelaw34.SccParts', WHERE WHAT IT READS IS OF BULK AT MOST 1048576: true; the input reads as it did. -/
def sccPartsUptoRow : OpenClaim := { program := "ytchonfdnghimdaa", sum := "427f2c84f0453eb12f29dcff24f984e9031e0ca671452cc01dc1f914c18f1e4d", func := "scutage/scutagelaw34.SccParts", spec := "sccParts", unfollowed := true, recurses := true, apart := false, narrowed := true }
def SccPartsUptoSaid : Prop := sccPartsUptoRow.holds Try.pinned (OpenSpec.upto sccPartsSpec)

/-- 'scutagelaw34.SccRings', WHERE WHAT IT READS IS OF BULK AT MOST 1048576: true; the input reads as it did. -/
def sccRingsUptoRow : OpenClaim := { program := "ytchonfdnghimdaa", sum := "427f2c84f0453eb12f29dcff24f984e9031e0ca671452cc01dc1f914c18f1e4d", func := "scutage/scutagelaw34.SccRings", spec := "sccRings", unfollowed := true, recurses := true, apart := false, narrowed := true }
def SccRingsUptoSaid : Prop := sccRingsUptoRow.holds Try.pinned (OpenSpec.upto sccRingsSpec)

/-- 'scutagelaw34.SccOrders', WHERE WHAT IT READS IS OF BULK AT MOST 1048576: true; the input reads as it did. -/
def sccOrdersUptoRow : OpenClaim := { program := "ytchonfdnghimdaa", sum := "427f2c84f0453eb12f29dcff24f984e9031e0ca671452cc01dc1f914c18f1e4d", func := "scutage/scutagelaw34.SccOrders", spec := "sccOrders", unfollowed := true, recurses := true, apart := false, narrowed := true }
def SccOrdersUptoSaid : Prop := sccOrdersUptoRow.holds Try.pinned (OpenSpec.upto sccOrdersSpec)

/-- 'scutagelaw35.RefsLeaks', WHERE WHAT IT READS IS OF BULK AT MOST 1048576: true; the input reads as it did. -/
def refsLeaksUptoRow : OpenClaim := { program := "ytchonfdnghimdaa", sum := "427f2c84f0453eb12f29dcff24f984e9031e0ca671452cc01dc1f914c18f1e4d", func := "scutage/scutagelaw35.RefsLeaks", spec := "refsLeaks", unfollowed := true, recurses := true, apart := false, narrowed := true }
def RefsLeaksUptoSaid : Prop := refsLeaksUptoRow.holds Try.pinned (OpenSpec.upto refsLeaksSpec)

end Rows
end Go.Proofs.Ytchonfdnghimdaa
