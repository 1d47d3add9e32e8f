/-
  No cell of these rows narrows 'for every input' (looked for: loops, veiled, ifaces, maps, wideKeys, modest, calm, conditions, laid).
  DERIVED. THE GIVEN ROWS OF THIS SEAT. 11 by the template 'for every input the law returns true; each argument reads behind the call as it read before'; 0 by the template 'total and deterministic' (their statements: YtckageghbhkklaaTotals.lean).
  GIVEN WITH THE SEED: the statements are not yours to turn. If you find one false, say at which input.
  Laid BY PROGRAM, IN A SANDBOX (cutbox-rows.mjs): the forced cells as the released guide's own fill.sh prints them over the translation 6b0ecfa6e0fd3458… (all of the seat's roots in one cut). By AI agents, Wed Nov 11 2026. No macro, syntax, notation, axiom, sorry.
-/
import Derived.Test.YtckageghbhkklaaChecked
import GoSem.Claim
import GoSem.ClaimJoined
import GoSem.ClaimMapViews
import Derived.JoinedTies
import Derived.KernelRfl
namespace Go.Proofs.Ytckageghbhkklaa
/- THE CELL 'sum', in the pinned program and in every row, IS THE sha256 OF THE DUMP (.gsa) THAT YtckageghbhkklaaProg.lean LOADS. Nothing in Lean hashes anything: it is a label: what it is worth is what the hold of that sum in a sandbox is worth. -/
noncomputable def Try.pinned : Pinned := { name := "ytckageghbhkklaa", sum := "6b0ecfa6e0fd34583b88e82c168ab43e451ddd8aba83e2b6e65164f485279b2f", checked := Try.checked }
namespace Rows
def none {H : Type} : Left H := { results := [], args := [] }

/-- 'scutagelaw22.BankRuns': WHATEVER THE INPUT: true; the input reads as it did. -/
def bankRunsSpec : ChangeSpec := { name := "bankRuns", fn := fun _ => fun
  | [d1, d2] => { results := [.lit (.bool true)], args := [d1, d2] }
  | _ => none }
def bankRunsRow : OpenClaim := { program := "ytckageghbhkklaa", sum := "6b0ecfa6e0fd34583b88e82c168ab43e451ddd8aba83e2b6e65164f485279b2f", func := "scutage/scutagelaw22.BankRuns", spec := "bankRuns", apart := false }
def BankRunsSaid : Prop := bankRunsRow.holds Try.pinned (OpenSpec.ofChange bankRunsSpec)

/-- ITS FALSE NEIGHBOUR: 'it returns false'. Refute it at one input. -/
def bankRunsWrong : ChangeSpec := { name := "bankRuns", fn := fun _ => fun
  | [d1, d2] => { results := [.lit (.bool false)], args := [d1, d2] }
  | _ => none }
def BankRunsWrongFalsely : Prop := bankRunsRow.holds Try.pinned (OpenSpec.ofChange bankRunsWrong)

/-- 'scutagelaw22.BankBalances': WHATEVER THE INPUT: true; the input reads as it did. -/
def bankBalancesSpec : ChangeSpec := { name := "bankBalances", fn := fun _ => fun
  | [d1, d2] => { results := [.lit (.bool true)], args := [d1, d2] }
  | _ => none }
def bankBalancesRow : OpenClaim := { program := "ytckageghbhkklaa", sum := "6b0ecfa6e0fd34583b88e82c168ab43e451ddd8aba83e2b6e65164f485279b2f", func := "scutage/scutagelaw22.BankBalances", spec := "bankBalances", apart := false }
def BankBalancesSaid : Prop := bankBalancesRow.holds Try.pinned (OpenSpec.ofChange bankBalancesSpec)

/-- ITS FALSE NEIGHBOUR: 'it returns false'. Refute it at one input. -/
def bankBalancesWrong : ChangeSpec := { name := "bankBalances", fn := fun _ => fun
  | [d1, d2] => { results := [.lit (.bool false)], args := [d1, d2] }
  | _ => none }
def BankBalancesWrongFalsely : Prop := bankBalancesRow.holds Try.pinned (OpenSpec.ofChange bankBalancesWrong)

/-- 'scutagelaw03.WordPuts': WHATEVER THE INPUT: true; the input reads as it did. -/
def wordPutsSpec : ChangeSpec := { name := "wordPuts", fn := fun _ => fun
  | [d] => { results := [.lit (.bool true)], args := [d] }
  | _ => none }
def wordPutsRow : OpenClaim := { program := "ytckageghbhkklaa", sum := "6b0ecfa6e0fd34583b88e82c168ab43e451ddd8aba83e2b6e65164f485279b2f", func := "scutage/scutagelaw03.WordPuts", spec := "wordPuts", apart := false }
def WordPutsSaid : Prop := wordPutsRow.holds Try.pinned (OpenSpec.ofChange wordPutsSpec)

/-- ITS FALSE NEIGHBOUR: 'it returns false'. Refute it at one input. -/
def wordPutsWrong : ChangeSpec := { name := "wordPuts", fn := fun _ => fun
  | [d] => { results := [.lit (.bool false)], args := [d] }
  | _ => none }
def WordPutsWrongFalsely : Prop := wordPutsRow.holds Try.pinned (OpenSpec.ofChange wordPutsWrong)

/-- 'scutagelaw03.WordReads': WHATEVER THE INPUT: true; the input reads as it did. -/
def wordReadsSpec : ChangeSpec := { name := "wordReads", fn := fun _ => fun
  | [d] => { results := [.lit (.bool true)], args := [d] }
  | _ => none }
def wordReadsRow : OpenClaim := { program := "ytckageghbhkklaa", sum := "6b0ecfa6e0fd34583b88e82c168ab43e451ddd8aba83e2b6e65164f485279b2f", func := "scutage/scutagelaw03.WordReads", spec := "wordReads", apart := false }
def WordReadsSaid : Prop := wordReadsRow.holds Try.pinned (OpenSpec.ofChange wordReadsSpec)

/-- ITS FALSE NEIGHBOUR: 'it returns false'. Refute it at one input. -/
def wordReadsWrong : ChangeSpec := { name := "wordReads", fn := fun _ => fun
  | [d] => { results := [.lit (.bool false)], args := [d] }
  | _ => none }
def WordReadsWrongFalsely : Prop := wordReadsRow.holds Try.pinned (OpenSpec.ofChange wordReadsWrong)

/-- 'scutagelaw03.WordBack': WHATEVER THE INPUT: true; the input reads as it did. -/
def wordBackSpec : ChangeSpec := { name := "wordBack", fn := fun _ => fun
  | [d1, d2, d3] => { results := [.lit (.bool true)], args := [d1, d2, d3] }
  | _ => none }
def wordBackRow : OpenClaim := { program := "ytckageghbhkklaa", sum := "6b0ecfa6e0fd34583b88e82c168ab43e451ddd8aba83e2b6e65164f485279b2f", func := "scutage/scutagelaw03.WordBack", spec := "wordBack", apart := false }
def WordBackSaid : Prop := wordBackRow.holds Try.pinned (OpenSpec.ofChange wordBackSpec)

/-- ITS FALSE NEIGHBOUR: 'it returns false'. Refute it at one input. -/
def wordBackWrong : ChangeSpec := { name := "wordBack", fn := fun _ => fun
  | [d1, d2, d3] => { results := [.lit (.bool false)], args := [d1, d2, d3] }
  | _ => none }
def WordBackWrongFalsely : Prop := wordBackRow.holds Try.pinned (OpenSpec.ofChange wordBackWrong)

/-- 'scutagelaw22.BankClones': WHATEVER THE INPUT: true; the input reads as it did. -/
def bankClonesSpec : ChangeSpec := { name := "bankClones", fn := fun _ => fun
  | [d1, d2, d3, d4] => { results := [.lit (.bool true)], args := [d1, d2, d3, d4] }
  | _ => none }
def bankClonesRow : OpenClaim := { program := "ytckageghbhkklaa", sum := "6b0ecfa6e0fd34583b88e82c168ab43e451ddd8aba83e2b6e65164f485279b2f", func := "scutage/scutagelaw22.BankClones", spec := "bankClones", apart := false }
def BankClonesSaid : Prop := bankClonesRow.holds Try.pinned (OpenSpec.ofChange bankClonesSpec)

/-- ITS FALSE NEIGHBOUR: 'it returns false'. Refute it at one input. -/
def bankClonesWrong : ChangeSpec := { name := "bankClones", fn := fun _ => fun
  | [d1, d2, d3, d4] => { results := [.lit (.bool false)], args := [d1, d2, d3, d4] }
  | _ => none }
def BankClonesWrongFalsely : Prop := bankClonesRow.holds Try.pinned (OpenSpec.ofChange bankClonesWrong)

/-- 'scutagelaw03.WordMakes': WHATEVER THE INPUT: true; the input reads as it did. -/
def wordMakesSpec : ChangeSpec := { name := "wordMakes", fn := fun _ => fun
  | [d1, d2] => { results := [.lit (.bool true)], args := [d1, d2] }
  | _ => none }
def wordMakesRow : OpenClaim := { program := "ytckageghbhkklaa", sum := "6b0ecfa6e0fd34583b88e82c168ab43e451ddd8aba83e2b6e65164f485279b2f", func := "scutage/scutagelaw03.WordMakes", spec := "wordMakes", apart := false }
def WordMakesSaid : Prop := wordMakesRow.holds Try.pinned (OpenSpec.ofChange wordMakesSpec)

/-- ITS FALSE NEIGHBOUR: 'it returns false'. Refute it at one input. -/
def wordMakesWrong : ChangeSpec := { name := "wordMakes", fn := fun _ => fun
  | [d1, d2] => { results := [.lit (.bool false)], args := [d1, d2] }
  | _ => none }
def WordMakesWrongFalsely : Prop := wordMakesRow.holds Try.pinned (OpenSpec.ofChange wordMakesWrong)

/-- 'scutagelaw14.RootsRefs': WHATEVER THE INPUT: true; the input reads as it did. -/
def rootsRefsSpec : ChangeSpec := { name := "rootsRefs", fn := fun _ => fun
  | [d1, d2] => { results := [.lit (.bool true)], args := [d1, d2] }
  | _ => none }
def rootsRefsRow : OpenClaim := { program := "ytckageghbhkklaa", sum := "6b0ecfa6e0fd34583b88e82c168ab43e451ddd8aba83e2b6e65164f485279b2f", func := "scutage/scutagelaw14.RootsRefs", spec := "rootsRefs", apart := false }
def RootsRefsSaid : Prop := rootsRefsRow.holds Try.pinned (OpenSpec.ofChange rootsRefsSpec)

/-- ITS FALSE NEIGHBOUR: 'it returns false'. Refute it at one input. -/
def rootsRefsWrong : ChangeSpec := { name := "rootsRefs", fn := fun _ => fun
  | [d1, d2] => { results := [.lit (.bool false)], args := [d1, d2] }
  | _ => none }
def RootsRefsWrongFalsely : Prop := rootsRefsRow.holds Try.pinned (OpenSpec.ofChange rootsRefsWrong)

/-- 'scutagelaw14.RootsRuns': WHATEVER THE INPUT: true; the input reads as it did. -/
def rootsRunsSpec : ChangeSpec := { name := "rootsRuns", fn := fun _ => fun
  | [d] => { results := [.lit (.bool true)], args := [d] }
  | _ => none }
def rootsRunsRow : OpenClaim := { program := "ytckageghbhkklaa", sum := "6b0ecfa6e0fd34583b88e82c168ab43e451ddd8aba83e2b6e65164f485279b2f", func := "scutage/scutagelaw14.RootsRuns", spec := "rootsRuns", apart := false }
def RootsRunsSaid : Prop := rootsRunsRow.holds Try.pinned (OpenSpec.ofChange rootsRunsSpec)

/-- ITS FALSE NEIGHBOUR: 'it returns false'. Refute it at one input. -/
def rootsRunsWrong : ChangeSpec := { name := "rootsRuns", fn := fun _ => fun
  | [d] => { results := [.lit (.bool false)], args := [d] }
  | _ => none }
def RootsRunsWrongFalsely : Prop := rootsRunsRow.holds Try.pinned (OpenSpec.ofChange rootsRunsWrong)

/-- 'scutagelaw14.RootsClones': WHATEVER THE INPUT: true; the input reads as it did. -/
def rootsClonesSpec : ChangeSpec := { name := "rootsClones", fn := fun _ => fun
  | [d1, d2, d3] => { results := [.lit (.bool true)], args := [d1, d2, d3] }
  | _ => none }
def rootsClonesRow : OpenClaim := { program := "ytckageghbhkklaa", sum := "6b0ecfa6e0fd34583b88e82c168ab43e451ddd8aba83e2b6e65164f485279b2f", func := "scutage/scutagelaw14.RootsClones", spec := "rootsClones", apart := false }
def RootsClonesSaid : Prop := rootsClonesRow.holds Try.pinned (OpenSpec.ofChange rootsClonesSpec)

/-- ITS FALSE NEIGHBOUR: 'it returns false'. Refute it at one input. -/
def rootsClonesWrong : ChangeSpec := { name := "rootsClones", fn := fun _ => fun
  | [d1, d2, d3] => { results := [.lit (.bool false)], args := [d1, d2, d3] }
  | _ => none }
def RootsClonesWrongFalsely : Prop := rootsClonesRow.holds Try.pinned (OpenSpec.ofChange rootsClonesWrong)

/-- 'scutagelaw21.LedgerMeets': WHATEVER THE INPUT: true; the input reads as it did. -/
def ledgerMeetsSpec : ChangeSpec := { name := "ledgerMeets", fn := fun _ => fun
  | [d1, d2, d3] => { results := [.lit (.bool true)], args := [d1, d2, d3] }
  | _ => none }
def ledgerMeetsRow : OpenClaim := { program := "ytckageghbhkklaa", sum := "6b0ecfa6e0fd34583b88e82c168ab43e451ddd8aba83e2b6e65164f485279b2f", func := "scutage/scutagelaw21.LedgerMeets", spec := "ledgerMeets", apart := false }
def LedgerMeetsSaid : Prop := ledgerMeetsRow.holds Try.pinned (OpenSpec.ofChange ledgerMeetsSpec)

/-- ITS FALSE NEIGHBOUR: 'it returns false'. Refute it at one input. -/
def ledgerMeetsWrong : ChangeSpec := { name := "ledgerMeets", fn := fun _ => fun
  | [d1, d2, d3] => { results := [.lit (.bool false)], args := [d1, d2, d3] }
  | _ => none }
def LedgerMeetsWrongFalsely : Prop := ledgerMeetsRow.holds Try.pinned (OpenSpec.ofChange ledgerMeetsWrong)

/- THE SECOND FORM. 'bulk': how many values and letters a reading holds, each counted each time it is reached (what is shared counts as often as it is met; a slice's spare places count too). A statement '..UptoSaid' is the law's where the arguments, and the package variables that the reading takes, are together of bulk at most 1048576: NARROWER than '..Said'. Prove '..Said' where nothing that the law and all that it calls make is longer than what came in: it says more and counts as full. Else prove '..UptoSaid'. A law counts once. -/
mutual
def uptoBulk {H : Type} : DataW H → Nat
  | .lit (.string bytes) => bytes.length + 1
  | .lit _ => 1
  | .nil => 1
  | .ptr d => uptoBulk d + 1
  | .slice elems spare => uptoBulkAll elems + uptoBulkAll spare + 1
  | .agg parts => uptoBulkAll parts + 1
  | .iface _ d => uptoBulk d + 1
  | .map entries => uptoBulkEntries entries + 1
  | .held _ => 1
def uptoBulkAll {H : Type} : List (DataW H) → Nat
  | [] => 0
  | d :: r => uptoBulk d + uptoBulkAll r
def uptoBulkEntries {H : Type} : List (Lit × DataW H) → Nat
  | [] => 0
  | x :: r => uptoBulkEntry x + uptoBulkEntries r
def uptoBulkEntry {H : Type} : Lit × DataW H → Nat
  | (.string bytes, d) => bytes.length + uptoBulk d + 1
  | (_, d) => uptoBulk d + 1
 end
def uptoSmall : (H : Type) → List (DataW H) → Bool := fun _ ds => decide (uptoBulkAll ds ≤ 1048576)
def OpenSpec.upto (s : _root_.Go.ChangeSpec) : _root_.Go.OpenSpec := { _root_.Go.OpenSpec.ofChange s with cond := some uptoSmall }

/-- 'scutagelaw22.BankRuns', WHERE WHAT IT READS IS OF BULK AT MOST 1048576: true; the input reads as it did. -/
def bankRunsUptoRow : OpenClaim := { program := "ytckageghbhkklaa", sum := "6b0ecfa6e0fd34583b88e82c168ab43e451ddd8aba83e2b6e65164f485279b2f", func := "scutage/scutagelaw22.BankRuns", spec := "bankRuns", apart := false, narrowed := true }
def BankRunsUptoSaid : Prop := bankRunsUptoRow.holds Try.pinned (OpenSpec.upto bankRunsSpec)

/-- 'scutagelaw22.BankBalances', WHERE WHAT IT READS IS OF BULK AT MOST 1048576: true; the input reads as it did. -/
def bankBalancesUptoRow : OpenClaim := { program := "ytckageghbhkklaa", sum := "6b0ecfa6e0fd34583b88e82c168ab43e451ddd8aba83e2b6e65164f485279b2f", func := "scutage/scutagelaw22.BankBalances", spec := "bankBalances", apart := false, narrowed := true }
def BankBalancesUptoSaid : Prop := bankBalancesUptoRow.holds Try.pinned (OpenSpec.upto bankBalancesSpec)

/-- 'scutagelaw03.WordPuts', WHERE WHAT IT READS IS OF BULK AT MOST 1048576: true; the input reads as it did. -/
def wordPutsUptoRow : OpenClaim := { program := "ytckageghbhkklaa", sum := "6b0ecfa6e0fd34583b88e82c168ab43e451ddd8aba83e2b6e65164f485279b2f", func := "scutage/scutagelaw03.WordPuts", spec := "wordPuts", apart := false, narrowed := true }
def WordPutsUptoSaid : Prop := wordPutsUptoRow.holds Try.pinned (OpenSpec.upto wordPutsSpec)

/-- 'scutagelaw03.WordReads', WHERE WHAT IT READS IS OF BULK AT MOST 1048576: true; the input reads as it did. -/
def wordReadsUptoRow : OpenClaim := { program := "ytckageghbhkklaa", sum := "6b0ecfa6e0fd34583b88e82c168ab43e451ddd8aba83e2b6e65164f485279b2f", func := "scutage/scutagelaw03.WordReads", spec := "wordReads", apart := false, narrowed := true }
def WordReadsUptoSaid : Prop := wordReadsUptoRow.holds Try.pinned (OpenSpec.upto wordReadsSpec)

/-- 'scutagelaw03.WordBack', WHERE WHAT IT READS IS OF BULK AT MOST 1048576: true; the input reads as it did. -/
def wordBackUptoRow : OpenClaim := { program := "ytckageghbhkklaa", sum := "6b0ecfa6e0fd34583b88e82c168ab43e451ddd8aba83e2b6e65164f485279b2f", func := "scutage/scutagelaw03.WordBack", spec := "wordBack", apart := false, narrowed := true }
def WordBackUptoSaid : Prop := wordBackUptoRow.holds Try.pinned (OpenSpec.upto wordBackSpec)

/-- 'scutagelaw22.BankClones', WHERE WHAT IT READS IS OF BULK AT MOST 1048576: true; the input reads as it did. -/
def bankClonesUptoRow : OpenClaim := { program := "ytckageghbhkklaa", sum := "6b0ecfa6e0fd34583b88e82c168ab43e451ddd8aba83e2b6e65164f485279b2f", func := "scutage/scutagelaw22.BankClones", spec := "bankClones", apart := false, narrowed := true }
def BankClonesUptoSaid : Prop := bankClonesUptoRow.holds Try.pinned (OpenSpec.upto bankClonesSpec)

/-- 'scutagelaw03.WordMakes', WHERE WHAT IT READS IS OF BULK AT MOST 1048576: true; the input reads as it did. -/
def wordMakesUptoRow : OpenClaim := { program := "ytckageghbhkklaa", sum := "6b0ecfa6e0fd34583b88e82c168ab43e451ddd8aba83e2b6e65164f485279b2f", func := "scutage/scutagelaw03.WordMakes", spec := "wordMakes", apart := false, narrowed := true }
def WordMakesUptoSaid : Prop := wordMakesUptoRow.holds Try.pinned (OpenSpec.upto wordMakesSpec)

/-- 'scutagelaw14.RootsRefs', WHERE WHAT IT READS IS OF BULK AT MOST 1048576: true; the input reads as it did. -/
def rootsRefsUptoRow : OpenClaim := { program := "ytckageghbhkklaa", sum := "6b0ecfa6e0fd34583b88e82c168ab43e451ddd8aba83e2b6e65164f485279b2f", func := "scutage/scutagelaw14.RootsRefs", spec := "rootsRefs", apart := false, narrowed := true }
def RootsRefsUptoSaid : Prop := rootsRefsUptoRow.holds Try.pinned (OpenSpec.upto rootsRefsSpec)

/-- 'scutagelaw14.RootsRuns', WHERE WHAT IT READS IS OF BULK AT MOST 1048576: true; the input reads as it did. -/
def rootsRunsUptoRow : OpenClaim := { program := "ytckageghbhkklaa", sum := "6b0ecfa6e0fd34583b88e82c168ab43e451ddd8aba83e2b6e65164f485279b2f", func := "scutage/scutagelaw14.RootsRuns", spec := "rootsRuns", apart := false, narrowed := true }
def RootsRunsUptoSaid : Prop := rootsRunsUptoRow.holds Try.pinned (OpenSpec.upto rootsRunsSpec)

/-- 'scutagelaw14.RootsClones', WHERE WHAT IT READS IS OF BULK AT MOST 1048576: true; the input reads as it did. -/
def rootsClonesUptoRow : OpenClaim := { program := "ytckageghbhkklaa", sum := "6b0ecfa6e0fd34583b88e82c168ab43e451ddd8aba83e2b6e65164f485279b2f", func := "scutage/scutagelaw14.RootsClones", spec := "rootsClones", apart := false, narrowed := true }
def RootsClonesUptoSaid : Prop := rootsClonesUptoRow.holds Try.pinned (OpenSpec.upto rootsClonesSpec)

/-- 'scutagelaw21.LedgerMeets', WHERE WHAT IT READS IS OF BULK AT MOST 1048576: true; the input reads as it did. -/
def ledgerMeetsUptoRow : OpenClaim := { program := "ytckageghbhkklaa", sum := "6b0ecfa6e0fd34583b88e82c168ab43e451ddd8aba83e2b6e65164f485279b2f", func := "scutage/scutagelaw21.LedgerMeets", spec := "ledgerMeets", apart := false, narrowed := true }
def LedgerMeetsUptoSaid : Prop := ledgerMeetsUptoRow.holds Try.pinned (OpenSpec.upto ledgerMeetsSpec)

end Rows
end Go.Proofs.Ytckageghbhkklaa
