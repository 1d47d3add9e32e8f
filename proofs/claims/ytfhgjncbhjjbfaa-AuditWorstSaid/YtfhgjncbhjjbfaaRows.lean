/-
  No cell of these rows narrows 'for every input' (looked for: loops, veiled, ifaces, maps, wideKeys, modest, calm, conditions, laid).
  DERIVED. THE GIVEN ROWS OF THIS SEAT. 11 by the template 'for every input the law returns true; each argument reads behind the call as it read before'; 0 by the template 'total and deterministic' (their statements: YtfhgjncbhjjbfaaTotals.lean).
  GIVEN WITH THE SEED: the statements are not yours to turn. If you find one false, say at which input.
  Laid BY PROGRAM, IN A SANDBOX (cutbox-rows.mjs): the forced cells as the released guide's own fill.sh prints them over the translation 936b445a171bbe3a… (all of the seat's roots in one cut). By AI agents, Wed Nov 11 2026. No macro, syntax, notation, axiom, sorry.
-/
import Derived.Test.YtfhgjncbhjjbfaaChecked
import GoSem.Claim
import GoSem.ClaimJoined
import GoSem.ClaimMapViews
import Derived.JoinedTies
import Derived.KernelRfl
namespace Go.Proofs.Ytfhgjncbhjjbfaa
/- THE CELL 'sum', in the pinned program and in every row, IS THE sha256 OF THE DUMP (.gsa) THAT YtfhgjncbhjjbfaaProg.lean LOADS. Nothing in Lean hashes anything: it is a label: what it is worth is what the hold of that sum in a sandbox is worth. -/
noncomputable def Try.pinned : Pinned := { name := "ytfhgjncbhjjbfaa", sum := "936b445a171bbe3aca1013a399c138d1e3ed52b69d055bc8d8426dacd3c28961", checked := Try.checked }
namespace Rows
def none {H : Type} : Left H := { results := [], args := [] }

/-- 'scutagelaw29.AuditTells': WHATEVER THE INPUT: true; the input reads as it did. -/
def auditTellsSpec : ChangeSpec := { name := "auditTells", fn := fun _ => fun
  | [d1, d2, d3, d4] => { results := [.lit (.bool true)], args := [d1, d2, d3, d4] }
  | _ => none }
def auditTellsRow : OpenClaim := { program := "ytfhgjncbhjjbfaa", sum := "936b445a171bbe3aca1013a399c138d1e3ed52b69d055bc8d8426dacd3c28961", func := "scutage/scutagelaw29.AuditTells", spec := "auditTells", unfollowed := true, recurses := true, apart := false }
def AuditTellsSaid : Prop := auditTellsRow.holds Try.pinned (OpenSpec.ofChange auditTellsSpec)

/-- ITS FALSE NEIGHBOUR: 'it returns false'. Refute it at one input. -/
def auditTellsWrong : ChangeSpec := { name := "auditTells", fn := fun _ => fun
  | [d1, d2, d3, d4] => { results := [.lit (.bool false)], args := [d1, d2, d3, d4] }
  | _ => none }
def AuditTellsWrongFalsely : Prop := auditTellsRow.holds Try.pinned (OpenSpec.ofChange auditTellsWrong)

/-- 'scutagelaw29.AuditWorst': WHATEVER THE INPUT: true; the input reads as it did. -/
def auditWorstSpec : ChangeSpec := { name := "auditWorst", fn := fun _ => fun
  | [d1, d2] => { results := [.lit (.bool true)], args := [d1, d2] }
  | _ => none }
def auditWorstRow : OpenClaim := { program := "ytfhgjncbhjjbfaa", sum := "936b445a171bbe3aca1013a399c138d1e3ed52b69d055bc8d8426dacd3c28961", func := "scutage/scutagelaw29.AuditWorst", spec := "auditWorst", unfollowed := true, recurses := true, apart := false }
def AuditWorstSaid : Prop := auditWorstRow.holds Try.pinned (OpenSpec.ofChange auditWorstSpec)

/-- ITS FALSE NEIGHBOUR: 'it returns false'. Refute it at one input. -/
def auditWorstWrong : ChangeSpec := { name := "auditWorst", fn := fun _ => fun
  | [d1, d2] => { results := [.lit (.bool false)], args := [d1, d2] }
  | _ => none }
def AuditWorstWrongFalsely : Prop := auditWorstRow.holds Try.pinned (OpenSpec.ofChange auditWorstWrong)

/-- 'scutagelaw29.AuditBank': WHATEVER THE INPUT: true; the input reads as it did. -/
def auditBankSpec : ChangeSpec := { name := "auditBank", fn := fun _ => fun
  | [d1, d2, d3] => { results := [.lit (.bool true)], args := [d1, d2, d3] }
  | _ => none }
def auditBankRow : OpenClaim := { program := "ytfhgjncbhjjbfaa", sum := "936b445a171bbe3aca1013a399c138d1e3ed52b69d055bc8d8426dacd3c28961", func := "scutage/scutagelaw29.AuditBank", spec := "auditBank", unfollowed := true, recurses := true, apart := false }
def AuditBankSaid : Prop := auditBankRow.holds Try.pinned (OpenSpec.ofChange auditBankSpec)

/-- ITS FALSE NEIGHBOUR: 'it returns false'. Refute it at one input. -/
def auditBankWrong : ChangeSpec := { name := "auditBank", fn := fun _ => fun
  | [d1, d2, d3] => { results := [.lit (.bool false)], args := [d1, d2, d3] }
  | _ => none }
def AuditBankWrongFalsely : Prop := auditBankRow.holds Try.pinned (OpenSpec.ofChange auditBankWrong)

/-- 'scutagelaw36.DomTells': WHATEVER THE INPUT: true; the input reads as it did. -/
def domTellsSpec : ChangeSpec := { name := "domTells", fn := fun _ => fun
  | [d1, d2, d3] => { results := [.lit (.bool true)], args := [d1, d2, d3] }
  | _ => none }
def domTellsRow : OpenClaim := { program := "ytfhgjncbhjjbfaa", sum := "936b445a171bbe3aca1013a399c138d1e3ed52b69d055bc8d8426dacd3c28961", func := "scutage/scutagelaw36.DomTells", spec := "domTells", unfollowed := true, recurses := true, apart := false }
def DomTellsSaid : Prop := domTellsRow.holds Try.pinned (OpenSpec.ofChange domTellsSpec)

/-- ITS FALSE NEIGHBOUR: 'it returns false'. Refute it at one input. -/
def domTellsWrong : ChangeSpec := { name := "domTells", fn := fun _ => fun
  | [d1, d2, d3] => { results := [.lit (.bool false)], args := [d1, d2, d3] }
  | _ => none }
def DomTellsWrongFalsely : Prop := domTellsRow.holds Try.pinned (OpenSpec.ofChange domTellsWrong)

/-- 'scutagelaw36.DomHolder': WHATEVER THE INPUT: true; the input reads as it did. -/
def domHolderSpec : ChangeSpec := { name := "domHolder", fn := fun _ => fun
  | [d] => { results := [.lit (.bool true)], args := [d] }
  | _ => none }
def domHolderRow : OpenClaim := { program := "ytfhgjncbhjjbfaa", sum := "936b445a171bbe3aca1013a399c138d1e3ed52b69d055bc8d8426dacd3c28961", func := "scutage/scutagelaw36.DomHolder", spec := "domHolder", unfollowed := true, recurses := true, apart := false }
def DomHolderSaid : Prop := domHolderRow.holds Try.pinned (OpenSpec.ofChange domHolderSpec)

/-- ITS FALSE NEIGHBOUR: 'it returns false'. Refute it at one input. -/
def domHolderWrong : ChangeSpec := { name := "domHolder", fn := fun _ => fun
  | [d] => { results := [.lit (.bool false)], args := [d] }
  | _ => none }
def DomHolderWrongFalsely : Prop := domHolderRow.holds Try.pinned (OpenSpec.ofChange domHolderWrong)

/-- 'scutagelaw36.DomChains': WHATEVER THE INPUT: true; the input reads as it did. -/
def domChainsSpec : ChangeSpec := { name := "domChains", fn := fun _ => fun
  | [d1, d2, d3, d4] => { results := [.lit (.bool true)], args := [d1, d2, d3, d4] }
  | _ => none }
def domChainsRow : OpenClaim := { program := "ytfhgjncbhjjbfaa", sum := "936b445a171bbe3aca1013a399c138d1e3ed52b69d055bc8d8426dacd3c28961", func := "scutage/scutagelaw36.DomChains", spec := "domChains", unfollowed := true, recurses := true, apart := false }
def DomChainsSaid : Prop := domChainsRow.holds Try.pinned (OpenSpec.ofChange domChainsSpec)

/-- ITS FALSE NEIGHBOUR: 'it returns false'. Refute it at one input. -/
def domChainsWrong : ChangeSpec := { name := "domChains", fn := fun _ => fun
  | [d1, d2, d3, d4] => { results := [.lit (.bool false)], args := [d1, d2, d3, d4] }
  | _ => none }
def DomChainsWrongFalsely : Prop := domChainsRow.holds Try.pinned (OpenSpec.ofChange domChainsWrong)

/-- 'scutagelaw33.ReachTells': WHATEVER THE INPUT: true; the input reads as it did. -/
def reachTellsSpec : ChangeSpec := { name := "reachTells", fn := fun _ => fun
  | [d] => { results := [.lit (.bool true)], args := [d] }
  | _ => none }
def reachTellsRow : OpenClaim := { program := "ytfhgjncbhjjbfaa", sum := "936b445a171bbe3aca1013a399c138d1e3ed52b69d055bc8d8426dacd3c28961", func := "scutage/scutagelaw33.ReachTells", spec := "reachTells", unfollowed := true, recurses := true, apart := false }
def ReachTellsSaid : Prop := reachTellsRow.holds Try.pinned (OpenSpec.ofChange reachTellsSpec)

/-- ITS FALSE NEIGHBOUR: 'it returns false'. Refute it at one input. -/
def reachTellsWrong : ChangeSpec := { name := "reachTells", fn := fun _ => fun
  | [d] => { results := [.lit (.bool false)], args := [d] }
  | _ => none }
def ReachTellsWrongFalsely : Prop := reachTellsRow.holds Try.pinned (OpenSpec.ofChange reachTellsWrong)

/-- 'scutagelaw33.ReachPaths': WHATEVER THE INPUT: true; the input reads as it did. -/
def reachPathsSpec : ChangeSpec := { name := "reachPaths", fn := fun _ => fun
  | [d1, d2] => { results := [.lit (.bool true)], args := [d1, d2] }
  | _ => none }
def reachPathsRow : OpenClaim := { program := "ytfhgjncbhjjbfaa", sum := "936b445a171bbe3aca1013a399c138d1e3ed52b69d055bc8d8426dacd3c28961", func := "scutage/scutagelaw33.ReachPaths", spec := "reachPaths", unfollowed := true, recurses := true, apart := false }
def ReachPathsSaid : Prop := reachPathsRow.holds Try.pinned (OpenSpec.ofChange reachPathsSpec)

/-- ITS FALSE NEIGHBOUR: 'it returns false'. Refute it at one input. -/
def reachPathsWrong : ChangeSpec := { name := "reachPaths", fn := fun _ => fun
  | [d1, d2] => { results := [.lit (.bool false)], args := [d1, d2] }
  | _ => none }
def ReachPathsWrongFalsely : Prop := reachPathsRow.holds Try.pinned (OpenSpec.ofChange reachPathsWrong)

/-- 'scutagelaw35.RefsCounts': WHATEVER THE INPUT: true; the input reads as it did. -/
def refsCountsSpec : ChangeSpec := { name := "refsCounts", fn := fun _ => fun
  | [d] => { results := [.lit (.bool true)], args := [d] }
  | _ => none }
def refsCountsRow : OpenClaim := { program := "ytfhgjncbhjjbfaa", sum := "936b445a171bbe3aca1013a399c138d1e3ed52b69d055bc8d8426dacd3c28961", func := "scutage/scutagelaw35.RefsCounts", spec := "refsCounts", unfollowed := true, recurses := true, apart := false }
def RefsCountsSaid : Prop := refsCountsRow.holds Try.pinned (OpenSpec.ofChange refsCountsSpec)

/-- ITS FALSE NEIGHBOUR: 'it returns false'. Refute it at one input. -/
def refsCountsWrong : ChangeSpec := { name := "refsCounts", fn := fun _ => fun
  | [d] => { results := [.lit (.bool false)], args := [d] }
  | _ => none }
def RefsCountsWrongFalsely : Prop := refsCountsRow.holds Try.pinned (OpenSpec.ofChange refsCountsWrong)

/-- 'scutagelaw35.RefsFalls': WHATEVER THE INPUT: true; the input reads as it did. -/
def refsFallsSpec : ChangeSpec := { name := "refsFalls", fn := fun _ => fun
  | [d] => { results := [.lit (.bool true)], args := [d] }
  | _ => none }
def refsFallsRow : OpenClaim := { program := "ytfhgjncbhjjbfaa", sum := "936b445a171bbe3aca1013a399c138d1e3ed52b69d055bc8d8426dacd3c28961", func := "scutage/scutagelaw35.RefsFalls", spec := "refsFalls", unfollowed := true, recurses := true, apart := false }
def RefsFallsSaid : Prop := refsFallsRow.holds Try.pinned (OpenSpec.ofChange refsFallsSpec)

/-- ITS FALSE NEIGHBOUR: 'it returns false'. Refute it at one input. -/
def refsFallsWrong : ChangeSpec := { name := "refsFalls", fn := fun _ => fun
  | [d] => { results := [.lit (.bool false)], args := [d] }
  | _ => none }
def RefsFallsWrongFalsely : Prop := refsFallsRow.holds Try.pinned (OpenSpec.ofChange refsFallsWrong)

/-- 'scutagelaw35.RefsLeaks': WHATEVER THE INPUT: true; the input reads as it did. -/
def refsLeaksSpec : ChangeSpec := { name := "refsLeaks", fn := fun _ => fun
  | [d] => { results := [.lit (.bool true)], args := [d] }
  | _ => none }
def refsLeaksRow : OpenClaim := { program := "ytfhgjncbhjjbfaa", sum := "936b445a171bbe3aca1013a399c138d1e3ed52b69d055bc8d8426dacd3c28961", func := "scutage/scutagelaw35.RefsLeaks", spec := "refsLeaks", unfollowed := true, recurses := true, apart := false }
def RefsLeaksSaid : Prop := refsLeaksRow.holds Try.pinned (OpenSpec.ofChange refsLeaksSpec)

/-- ITS FALSE NEIGHBOUR: 'it returns false'. Refute it at one input. -/
def refsLeaksWrong : ChangeSpec := { name := "refsLeaks", fn := fun _ => fun
  | [d] => { results := [.lit (.bool false)], args := [d] }
  | _ => none }
def RefsLeaksWrongFalsely : Prop := refsLeaksRow.holds Try.pinned (OpenSpec.ofChange refsLeaksWrong)

/- THE SECOND FORM. 'bulk': how many values and letters a reading holds, each counted each time it is reached (what is shared counts as often as it is met; a slice's spare places count too). A statement '..UptoSaid' is the law's where the arguments, and the package variables that the reading takes, are together of bulk at most 1048576: NARROWER than '..Said'. Prove '..Said' where nothing that the law and all that it calls make is longer than what came in: it says more and counts as full. Else prove '..UptoSaid'. A law counts once. -/
mutual
def uptoBulk {H : Type} : DataW H → Nat
  | .lit (.string bytes) => bytes.length + 1
  | .lit _ => 1
  | .nil => 1
  | .ptr d => uptoBulk d + 1
  | .slice elems spare => uptoBulkAll elems + uptoBulkAll spare + 1
  | .agg parts => uptoBulkAll parts + 1
  | .iface _ d => uptoBulk d + 1
  | .map entries => uptoBulkEntries entries + 1
  | .held _ => 1
def uptoBulkAll {H : Type} : List (DataW H) → Nat
  | [] => 0
  | d :: r => uptoBulk d + uptoBulkAll r
def uptoBulkEntries {H : Type} : List (Lit × DataW H) → Nat
  | [] => 0
  | x :: r => uptoBulkEntry x + uptoBulkEntries r
def uptoBulkEntry {H : Type} : Lit × DataW H → Nat
  | (.string bytes, d) => bytes.length + uptoBulk d + 1
  | (_, d) => uptoBulk d + 1
 end
def uptoSmall : (H : Type) → List (DataW H) → Bool := fun _ ds => decide (uptoBulkAll ds ≤ 1048576)
def OpenSpec.upto (s : _root_.Go.ChangeSpec) : _root_.Go.OpenSpec := { _root_.Go.OpenSpec.ofChange s with cond := some uptoSmall }

/-- 'scutagelaw29.AuditTells', WHERE WHAT IT READS IS OF BULK AT MOST 1048576: true; the input reads as it did. -/
def auditTellsUptoRow : OpenClaim := { program := "ytfhgjncbhjjbfaa", sum := "936b445a171bbe3aca1013a399c138d1e3ed52b69d055bc8d8426dacd3c28961", func := "scutage/scutagelaw29.AuditTells", spec := "auditTells", unfollowed := true, recurses := true, apart := false, narrowed := true }
def AuditTellsUptoSaid : Prop := auditTellsUptoRow.holds Try.pinned (OpenSpec.upto auditTellsSpec)

/-- 'scutagelaw29.AuditWorst', WHERE WHAT IT READS IS OF BULK AT MOST 1048576: true; the input reads as it did. -/
def auditWorstUptoRow : OpenClaim := { program := "ytfhgjncbhjjbfaa", sum := "936b445a171bbe3aca1013a399c138d1e3ed52b69d055bc8d8426dacd3c28961", func := "scutage/scutagelaw29.AuditWorst", spec := "auditWorst", unfollowed := true, recurses := true, apart := false, narrowed := true }
def AuditWorstUptoSaid : Prop := auditWorstUptoRow.holds Try.pinned (OpenSpec.upto auditWorstSpec)

/-- 'scutagelaw29.AuditBank', WHERE WHAT IT READS IS OF BULK AT MOST 1048576: true; the input reads as it did. -/
def auditBankUptoRow : OpenClaim := { program := "ytfhgjncbhjjbfaa", sum := "936b445a171bbe3aca1013a399c138d1e3ed52b69d055bc8d8426dacd3c28961", func := "scutage/scutagelaw29.AuditBank", spec := "auditBank", unfollowed := true, recurses := true, apart := false, narrowed := true }
def AuditBankUptoSaid : Prop := auditBankUptoRow.holds Try.pinned (OpenSpec.upto auditBankSpec)

/-- 'scutagelaw36.DomTells', WHERE WHAT IT READS IS OF BULK AT MOST 1048576: true; the input reads as it did. -/
def domTellsUptoRow : OpenClaim := { program := "ytfhgjncbhjjbfaa", sum := "936b445a171bbe3aca1013a399c138d1e3ed52b69d055bc8d8426dacd3c28961", func := "scutage/scutagelaw36.DomTells", spec := "domTells", unfollowed := true, recurses := true, apart := false, narrowed := true }
def DomTellsUptoSaid : Prop := domTellsUptoRow.holds Try.pinned (OpenSpec.upto domTellsSpec)

/-- 'scutagelaw36.DomHolder', WHERE WHAT IT READS IS OF BULK AT MOST 1048576: true; the input reads as it did. -/
def domHolderUptoRow : OpenClaim := { program := "ytfhgjncbhjjbfaa", sum := "936b445a171bbe3aca1013a399c138d1e3ed52b69d055bc8d8426dacd3c28961", func := "scutage/scutagelaw36.DomHolder", spec := "domHolder", unfollowed := true, recurses := true, apart := false, narrowed := true }
def DomHolderUptoSaid : Prop := domHolderUptoRow.holds Try.pinned (OpenSpec.upto domHolderSpec)

/-- 'scutagelaw36.DomChains', WHERE WHAT IT READS IS OF BULK AT MOST 1048576: true; the input reads as it did. -/
def domChainsUptoRow : OpenClaim := { program := "ytfhgjncbhjjbfaa", sum := "936b445a171bbe3aca1013a399c138d1e3ed52b69d055bc8d8426dacd3c28961", func := "scutage/scutagelaw36.DomChains", spec := "domChains", unfollowed := true, recurses := true, apart := false, narrowed := true }
def DomChainsUptoSaid : Prop := domChainsUptoRow.holds Try.pinned (OpenSpec.upto domChainsSpec)

/-- 'scutagelaw33.ReachTells', WHERE WHAT IT READS IS OF BULK AT MOST 1048576: true; the input reads as it did. -/
def reachTellsUptoRow : OpenClaim := { program := "ytfhgjncbhjjbfaa", sum := "936b445a171bbe3aca1013a399c138d1e3ed52b69d055bc8d8426dacd3c28961", func := "scutage/scutagelaw33.ReachTells", spec := "reachTells", unfollowed := true, recurses := true, apart := false, narrowed := true }
def ReachTellsUptoSaid : Prop := reachTellsUptoRow.holds Try.pinned (OpenSpec.upto reachTellsSpec)

/-- 'scutagelaw33.ReachPaths', WHERE WHAT IT READS IS OF BULK AT MOST 1048576: true; the input reads as it did. -/
def reachPathsUptoRow : OpenClaim := { program := "ytfhgjncbhjjbfaa", sum := "936b445a171bbe3aca1013a399c138d1e3ed52b69d055bc8d8426dacd3c28961", func := "scutage/scutagelaw33.ReachPaths", spec := "reachPaths", unfollowed := true, recurses := true, apart := false, narrowed := true }
def ReachPathsUptoSaid : Prop := reachPathsUptoRow.holds Try.pinned (OpenSpec.upto reachPathsSpec)

/-- 'scutagelaw35.RefsCounts', WHERE WHAT IT READS IS OF BULK AT MOST 1048576: true; the input reads as it did. -/
def refsCountsUptoRow : OpenClaim := { program := "ytfhgjncbhjjbfaa", sum := "936b445a171bbe3aca1013a399c138d1e3ed52b69d055bc8d8426dacd3c28961", func := "scutage/scutagelaw35.RefsCounts", spec := "refsCounts", unfollowed := true, recurses := true, apart := false, narrowed := true }
def RefsCountsUptoSaid : Prop := refsCountsUptoRow.holds Try.pinned (OpenSpec.upto refsCountsSpec)

/-- 'scutagelaw35.RefsFalls', WHERE WHAT IT READS IS OF BULK AT MOST 1048576: true; the input reads as it did. -/
def refsFallsUptoRow : OpenClaim := { program := "ytfhgjncbhjjbfaa", sum := "936b445a171bbe3aca1013a399c138d1e3ed52b69d055bc8d8426dacd3c28961", func := "scutage/scutagelaw35.RefsFalls", spec := "refsFalls", unfollowed := true, recurses := true, apart := false, narrowed := true }
def RefsFallsUptoSaid : Prop := refsFallsUptoRow.holds Try.pinned (OpenSpec.upto refsFallsSpec)

/-- 'scutagelaw35.RefsLeaks', WHERE WHAT IT READS IS OF BULK AT MOST 1048576: true; the input reads as it did. -/
def refsLeaksUptoRow : OpenClaim := { program := "ytfhgjncbhjjbfaa", sum := "936b445a171bbe3aca1013a399c138d1e3ed52b69d055bc8d8426dacd3c28961", func := "scutage/scutagelaw35.RefsLeaks", spec := "refsLeaks", unfollowed := true, recurses := true, apart := false, narrowed := true }
def RefsLeaksUptoSaid : Prop := refsLeaksUptoRow.holds Try.pinned (OpenSpec.upto refsLeaksSpec)

end Rows
end Go.Proofs.Ytfhgjncbhjjbfaa
