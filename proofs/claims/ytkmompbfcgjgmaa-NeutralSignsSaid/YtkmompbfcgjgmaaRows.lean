/-
  No cell of these rows narrows 'for every input' (looked for: loops, veiled, ifaces, maps, wideKeys, modest, calm, conditions, laid).
  DERIVED. THE GIVEN ROWS OF THIS SEAT. 9 by the template 'for every input the law returns true; each argument reads behind the call as it read before'; 0 by the template 'total and deterministic' (their statements: YtkmompbfcgjgmaaTotals.lean).
  GIVEN WITH THE SEED: the statements are not yours to turn. If you find one false, say at which input.
  Laid BY PROGRAM, IN A SANDBOX (cutbox-rows.mjs): the forced cells as the released guide's own fill.sh prints them over the translation dc9dfd687889bd4a… (all of the seat's roots in one cut). By AI agents, Wed Nov 11 2026. No macro, syntax, notation, axiom, sorry.
-/
import Derived.Test.YtkmompbfcgjgmaaChecked
import GoSem.Claim
import GoSem.ClaimJoined
import GoSem.ClaimMapViews
import Derived.JoinedTies
import Derived.KernelRfl
namespace Go.Proofs.Ytkmompbfcgjgmaa
/- THE CELL 'sum', in the pinned program and in every row, IS THE sha256 OF THE DUMP (.gsa) THAT YtkmompbfcgjgmaaProg.lean LOADS. Nothing in Lean hashes anything: it is a label: what it is worth is what the hold of that sum in a sandbox is worth. -/
noncomputable def Try.pinned : Pinned := { name := "ytkmompbfcgjgmaa", sum := "dc9dfd687889bd4a7b84f15e9495aefeeb14c8c841dafe21f99485b3133a59e7", checked := Try.checked }
namespace Rows
def none {H : Type} : Left H := { results := [], args := [] }

/-- 'agoniclaw11.NeutralSigns': WHATEVER THE INPUT: true; the input reads as it did. -/
def neutralSignsSpec : ChangeSpec := { name := "neutralSigns", fn := fun _ => fun
  | [d1, d2] => { results := [.lit (.bool true)], args := [d1, d2] }
  | _ => none }
def neutralSignsRow : OpenClaim := { program := "ytkmompbfcgjgmaa", sum := "dc9dfd687889bd4a7b84f15e9495aefeeb14c8c841dafe21f99485b3133a59e7", func := "agonic/agoniclaw11.NeutralSigns", spec := "neutralSigns", unfollowed := true, recurses := true, apart := false }
def NeutralSignsSaid : Prop := neutralSignsRow.holds Try.pinned (OpenSpec.ofChange neutralSignsSpec)

/-- ITS FALSE NEIGHBOUR: 'it returns false'. Refute it at one input. -/
def neutralSignsWrong : ChangeSpec := { name := "neutralSigns", fn := fun _ => fun
  | [d1, d2] => { results := [.lit (.bool false)], args := [d1, d2] }
  | _ => none }
def NeutralSignsWrongFalsely : Prop := neutralSignsRow.holds Try.pinned (OpenSpec.ofChange neutralSignsWrong)

/-- 'agoniclaw11.NeutralCounts': WHATEVER THE INPUT: true; the input reads as it did. -/
def neutralCountsSpec : ChangeSpec := { name := "neutralCounts", fn := fun _ => fun
  | [d1, d2, d3] => { results := [.lit (.bool true)], args := [d1, d2, d3] }
  | _ => none }
def neutralCountsRow : OpenClaim := { program := "ytkmompbfcgjgmaa", sum := "dc9dfd687889bd4a7b84f15e9495aefeeb14c8c841dafe21f99485b3133a59e7", func := "agonic/agoniclaw11.NeutralCounts", spec := "neutralCounts", unfollowed := true, recurses := true, apart := false }
def NeutralCountsSaid : Prop := neutralCountsRow.holds Try.pinned (OpenSpec.ofChange neutralCountsSpec)

/-- ITS FALSE NEIGHBOUR: 'it returns false'. Refute it at one input. -/
def neutralCountsWrong : ChangeSpec := { name := "neutralCounts", fn := fun _ => fun
  | [d1, d2, d3] => { results := [.lit (.bool false)], args := [d1, d2, d3] }
  | _ => none }
def NeutralCountsWrongFalsely : Prop := neutralCountsRow.holds Try.pinned (OpenSpec.ofChange neutralCountsWrong)

/-- 'agoniclaw11.NeutralRoots': WHATEVER THE INPUT: true; the input reads as it did. -/
def neutralRootsSpec : ChangeSpec := { name := "neutralRoots", fn := fun _ => fun
  | [d] => { results := [.lit (.bool true)], args := [d] }
  | _ => none }
def neutralRootsRow : OpenClaim := { program := "ytkmompbfcgjgmaa", sum := "dc9dfd687889bd4a7b84f15e9495aefeeb14c8c841dafe21f99485b3133a59e7", func := "agonic/agoniclaw11.NeutralRoots", spec := "neutralRoots", unfollowed := true, recurses := true, apart := false }
def NeutralRootsSaid : Prop := neutralRootsRow.holds Try.pinned (OpenSpec.ofChange neutralRootsSpec)

/-- ITS FALSE NEIGHBOUR: 'it returns false'. Refute it at one input. -/
def neutralRootsWrong : ChangeSpec := { name := "neutralRoots", fn := fun _ => fun
  | [d] => { results := [.lit (.bool false)], args := [d] }
  | _ => none }
def NeutralRootsWrongFalsely : Prop := neutralRootsRow.holds Try.pinned (OpenSpec.ofChange neutralRootsWrong)

/-- 'agoniclaw11.NeutralSturm': WHATEVER THE INPUT: true; the input reads as it did. -/
def neutralSturmSpec : ChangeSpec := { name := "neutralSturm", fn := fun _ => fun
  | [d1, d2, d3] => { results := [.lit (.bool true)], args := [d1, d2, d3] }
  | _ => none }
def neutralSturmRow : OpenClaim := { program := "ytkmompbfcgjgmaa", sum := "dc9dfd687889bd4a7b84f15e9495aefeeb14c8c841dafe21f99485b3133a59e7", func := "agonic/agoniclaw11.NeutralSturm", spec := "neutralSturm", unfollowed := true, recurses := true, apart := false }
def NeutralSturmSaid : Prop := neutralSturmRow.holds Try.pinned (OpenSpec.ofChange neutralSturmSpec)

/-- ITS FALSE NEIGHBOUR: 'it returns false'. Refute it at one input. -/
def neutralSturmWrong : ChangeSpec := { name := "neutralSturm", fn := fun _ => fun
  | [d1, d2, d3] => { results := [.lit (.bool false)], args := [d1, d2, d3] }
  | _ => none }
def NeutralSturmWrongFalsely : Prop := neutralSturmRow.holds Try.pinned (OpenSpec.ofChange neutralSturmWrong)

/-- 'agoniclaw11.NeutralFound': WHATEVER THE INPUT: true; the input reads as it did. -/
def neutralFoundSpec : ChangeSpec := { name := "neutralFound", fn := fun _ => fun
  | [d] => { results := [.lit (.bool true)], args := [d] }
  | _ => none }
def neutralFoundRow : OpenClaim := { program := "ytkmompbfcgjgmaa", sum := "dc9dfd687889bd4a7b84f15e9495aefeeb14c8c841dafe21f99485b3133a59e7", func := "agonic/agoniclaw11.NeutralFound", spec := "neutralFound", unfollowed := true, recurses := true, apart := false }
def NeutralFoundSaid : Prop := neutralFoundRow.holds Try.pinned (OpenSpec.ofChange neutralFoundSpec)

/-- ITS FALSE NEIGHBOUR: 'it returns false'. Refute it at one input. -/
def neutralFoundWrong : ChangeSpec := { name := "neutralFound", fn := fun _ => fun
  | [d] => { results := [.lit (.bool false)], args := [d] }
  | _ => none }
def NeutralFoundWrongFalsely : Prop := neutralFoundRow.holds Try.pinned (OpenSpec.ofChange neutralFoundWrong)

/-- 'agoniclaw11.NeutralAdded': WHATEVER THE INPUT: true; the input reads as it did. -/
def neutralAddedSpec : ChangeSpec := { name := "neutralAdded", fn := fun _ => fun
  | [d1, d2, d3, d4, d5] => { results := [.lit (.bool true)], args := [d1, d2, d3, d4, d5] }
  | _ => none }
def neutralAddedRow : OpenClaim := { program := "ytkmompbfcgjgmaa", sum := "dc9dfd687889bd4a7b84f15e9495aefeeb14c8c841dafe21f99485b3133a59e7", func := "agonic/agoniclaw11.NeutralAdded", spec := "neutralAdded", unfollowed := true, recurses := true, apart := false }
def NeutralAddedSaid : Prop := neutralAddedRow.holds Try.pinned (OpenSpec.ofChange neutralAddedSpec)

/-- ITS FALSE NEIGHBOUR: 'it returns false'. Refute it at one input. -/
def neutralAddedWrong : ChangeSpec := { name := "neutralAdded", fn := fun _ => fun
  | [d1, d2, d3, d4, d5] => { results := [.lit (.bool false)], args := [d1, d2, d3, d4, d5] }
  | _ => none }
def NeutralAddedWrongFalsely : Prop := neutralAddedRow.holds Try.pinned (OpenSpec.ofChange neutralAddedWrong)

/-- 'agoniclaw11.NeutralChain': WHATEVER THE INPUT: true; the input reads as it did. -/
def neutralChainSpec : ChangeSpec := { name := "neutralChain", fn := fun _ => fun
  | [d1, d2] => { results := [.lit (.bool true)], args := [d1, d2] }
  | _ => none }
def neutralChainRow : OpenClaim := { program := "ytkmompbfcgjgmaa", sum := "dc9dfd687889bd4a7b84f15e9495aefeeb14c8c841dafe21f99485b3133a59e7", func := "agonic/agoniclaw11.NeutralChain", spec := "neutralChain", unfollowed := true, recurses := true, apart := false }
def NeutralChainSaid : Prop := neutralChainRow.holds Try.pinned (OpenSpec.ofChange neutralChainSpec)

/-- ITS FALSE NEIGHBOUR: 'it returns false'. Refute it at one input. -/
def neutralChainWrong : ChangeSpec := { name := "neutralChain", fn := fun _ => fun
  | [d1, d2] => { results := [.lit (.bool false)], args := [d1, d2] }
  | _ => none }
def NeutralChainWrongFalsely : Prop := neutralChainRow.holds Try.pinned (OpenSpec.ofChange neutralChainWrong)

/-- 'agoniclaw11.NeutralMirrored': WHATEVER THE INPUT: true; the input reads as it did. -/
def neutralMirroredSpec : ChangeSpec := { name := "neutralMirrored", fn := fun _ => fun
  | [d1, d2, d3, d4, d5] => { results := [.lit (.bool true)], args := [d1, d2, d3, d4, d5] }
  | _ => none }
def neutralMirroredRow : OpenClaim := { program := "ytkmompbfcgjgmaa", sum := "dc9dfd687889bd4a7b84f15e9495aefeeb14c8c841dafe21f99485b3133a59e7", func := "agonic/agoniclaw11.NeutralMirrored", spec := "neutralMirrored", unfollowed := true, recurses := true, apart := false }
def NeutralMirroredSaid : Prop := neutralMirroredRow.holds Try.pinned (OpenSpec.ofChange neutralMirroredSpec)

/-- ITS FALSE NEIGHBOUR: 'it returns false'. Refute it at one input. -/
def neutralMirroredWrong : ChangeSpec := { name := "neutralMirrored", fn := fun _ => fun
  | [d1, d2, d3, d4, d5] => { results := [.lit (.bool false)], args := [d1, d2, d3, d4, d5] }
  | _ => none }
def NeutralMirroredWrongFalsely : Prop := neutralMirroredRow.holds Try.pinned (OpenSpec.ofChange neutralMirroredWrong)

/-- 'agoniclaw11.NeutralKnown': WHATEVER THE INPUT: true; the input reads as it did. -/
def neutralKnownSpec : ChangeSpec := { name := "neutralKnown", fn := fun _ => fun
  | [] => { results := [.lit (.bool true)], args := [] }
  | _ => none }
def neutralKnownRow : OpenClaim := { program := "ytkmompbfcgjgmaa", sum := "dc9dfd687889bd4a7b84f15e9495aefeeb14c8c841dafe21f99485b3133a59e7", func := "agonic/agoniclaw11.NeutralKnown", spec := "neutralKnown", unfollowed := true, recurses := true, apart := false }
def NeutralKnownSaid : Prop := neutralKnownRow.holds Try.pinned (OpenSpec.ofChange neutralKnownSpec)

/-- ITS FALSE NEIGHBOUR: 'it returns false'. Refute it at one input. -/
def neutralKnownWrong : ChangeSpec := { name := "neutralKnown", fn := fun _ => fun
  | [] => { results := [.lit (.bool false)], args := [] }
  | _ => none }
def NeutralKnownWrongFalsely : Prop := neutralKnownRow.holds Try.pinned (OpenSpec.ofChange neutralKnownWrong)

/- THE SECOND FORM. 'bulk': how many values and letters a reading holds, each counted each time it is reached (what is shared counts as often as it is met; a slice's spare places count too). A statement '..UptoSaid' is the law's where the arguments, and the package variables that the reading takes, are together of bulk at most 1048576: NARROWER than '..Said'. Prove '..Said' where nothing that the law and all that it calls make is longer than what came in: it says more and counts as full. Else prove '..UptoSaid'. A law counts once. -/
mutual
def uptoBulk {H : Type} : DataW H → Nat
  | .lit (.string bytes) => bytes.length + 1
  | .lit _ => 1
  | .nil => 1
  | .ptr d => uptoBulk d + 1
  | .slice elems spare => uptoBulkAll elems + uptoBulkAll spare + 1
  | .agg parts => uptoBulkAll parts + 1
  | .iface _ d => uptoBulk d + 1
  | .map entries => uptoBulkEntries entries + 1
  | .held _ => 1
def uptoBulkAll {H : Type} : List (DataW H) → Nat
  | [] => 0
  | d :: r => uptoBulk d + uptoBulkAll r
def uptoBulkEntries {H : Type} : List (Lit × DataW H) → Nat
  | [] => 0
  | x :: r => uptoBulkEntry x + uptoBulkEntries r
def uptoBulkEntry {H : Type} : Lit × DataW H → Nat
  | (.string bytes, d) => bytes.length + uptoBulk d + 1
  | (_, d) => uptoBulk d + 1
 end
def uptoSmall : (H : Type) → List (DataW H) → Bool := fun _ ds => decide (uptoBulkAll ds ≤ 1048576)
def OpenSpec.upto (s : _root_.Go.ChangeSpec) : _root_.Go.OpenSpec := { _root_.Go.OpenSpec.ofChange s with cond := some uptoSmall }

/-- 'agoniclaw11.NeutralSigns', WHERE WHAT IT READS IS OF BULK AT MOST 1048576: true; the input reads as it did. -/
def neutralSignsUptoRow : OpenClaim := { program := "ytkmompbfcgjgmaa", sum := "dc9dfd687889bd4a7b84f15e9495aefeeb14c8c841dafe21f99485b3133a59e7", func := "agonic/agoniclaw11.NeutralSigns", spec := "neutralSigns", unfollowed := true, recurses := true, apart := false, narrowed := true }
def NeutralSignsUptoSaid : Prop := neutralSignsUptoRow.holds Try.pinned (OpenSpec.upto neutralSignsSpec)

/-- 'agoniclaw11.NeutralCounts', WHERE WHAT IT READS IS OF BULK AT MOST 1048576: true; the input reads as it did. -/
def neutralCountsUptoRow : OpenClaim := { program := "ytkmompbfcgjgmaa", sum := "dc9dfd687889bd4a7b84f15e9495aefeeb14c8c841dafe21f99485b3133a59e7", func := "agonic/agoniclaw11.NeutralCounts", spec := "neutralCounts", unfollowed := true, recurses := true, apart := false, narrowed := true }
def NeutralCountsUptoSaid : Prop := neutralCountsUptoRow.holds Try.pinned (OpenSpec.upto neutralCountsSpec)

/-- 'agoniclaw11.NeutralRoots', WHERE WHAT IT READS IS OF BULK AT MOST 1048576: true; the input reads as it did. -/
def neutralRootsUptoRow : OpenClaim := { program := "ytkmompbfcgjgmaa", sum := "dc9dfd687889bd4a7b84f15e9495aefeeb14c8c841dafe21f99485b3133a59e7", func := "agonic/agoniclaw11.NeutralRoots", spec := "neutralRoots", unfollowed := true, recurses := true, apart := false, narrowed := true }
def NeutralRootsUptoSaid : Prop := neutralRootsUptoRow.holds Try.pinned (OpenSpec.upto neutralRootsSpec)

/-- 'agoniclaw11.NeutralSturm', WHERE WHAT IT READS IS OF BULK AT MOST 1048576: true; the input reads as it did. -/
def neutralSturmUptoRow : OpenClaim := { program := "ytkmompbfcgjgmaa", sum := "dc9dfd687889bd4a7b84f15e9495aefeeb14c8c841dafe21f99485b3133a59e7", func := "agonic/agoniclaw11.NeutralSturm", spec := "neutralSturm", unfollowed := true, recurses := true, apart := false, narrowed := true }
def NeutralSturmUptoSaid : Prop := neutralSturmUptoRow.holds Try.pinned (OpenSpec.upto neutralSturmSpec)

/-- 'agoniclaw11.NeutralFound', WHERE WHAT IT READS IS OF BULK AT MOST 1048576: true; the input reads as it did. -/
def neutralFoundUptoRow : OpenClaim := { program := "ytkmompbfcgjgmaa", sum := "dc9dfd687889bd4a7b84f15e9495aefeeb14c8c841dafe21f99485b3133a59e7", func := "agonic/agoniclaw11.NeutralFound", spec := "neutralFound", unfollowed := true, recurses := true, apart := false, narrowed := true }
def NeutralFoundUptoSaid : Prop := neutralFoundUptoRow.holds Try.pinned (OpenSpec.upto neutralFoundSpec)

/-- 'agoniclaw11.NeutralAdded', WHERE WHAT IT READS IS OF BULK AT MOST 1048576: true; the input reads as it did. -/
def neutralAddedUptoRow : OpenClaim := { program := "ytkmompbfcgjgmaa", sum := "dc9dfd687889bd4a7b84f15e9495aefeeb14c8c841dafe21f99485b3133a59e7", func := "agonic/agoniclaw11.NeutralAdded", spec := "neutralAdded", unfollowed := true, recurses := true, apart := false, narrowed := true }
def NeutralAddedUptoSaid : Prop := neutralAddedUptoRow.holds Try.pinned (OpenSpec.upto neutralAddedSpec)

/-- 'agoniclaw11.NeutralChain', WHERE WHAT IT READS IS OF BULK AT MOST 1048576: true; the input reads as it did. -/
def neutralChainUptoRow : OpenClaim := { program := "ytkmompbfcgjgmaa", sum := "dc9dfd687889bd4a7b84f15e9495aefeeb14c8c841dafe21f99485b3133a59e7", func := "agonic/agoniclaw11.NeutralChain", spec := "neutralChain", unfollowed := true, recurses := true, apart := false, narrowed := true }
def NeutralChainUptoSaid : Prop := neutralChainUptoRow.holds Try.pinned (OpenSpec.upto neutralChainSpec)

/-- 'agoniclaw11.NeutralMirrored', WHERE WHAT IT READS IS OF BULK AT MOST 1048576: true; the input reads as it did. -/
def neutralMirroredUptoRow : OpenClaim := { program := "ytkmompbfcgjgmaa", sum := "dc9dfd687889bd4a7b84f15e9495aefeeb14c8c841dafe21f99485b3133a59e7", func := "agonic/agoniclaw11.NeutralMirrored", spec := "neutralMirrored", unfollowed := true, recurses := true, apart := false, narrowed := true }
def NeutralMirroredUptoSaid : Prop := neutralMirroredUptoRow.holds Try.pinned (OpenSpec.upto neutralMirroredSpec)

/-- 'agoniclaw11.NeutralKnown', WHERE WHAT IT READS IS OF BULK AT MOST 1048576: true; the input reads as it did. -/
def neutralKnownUptoRow : OpenClaim := { program := "ytkmompbfcgjgmaa", sum := "dc9dfd687889bd4a7b84f15e9495aefeeb14c8c841dafe21f99485b3133a59e7", func := "agonic/agoniclaw11.NeutralKnown", spec := "neutralKnown", unfollowed := true, recurses := true, apart := false, narrowed := true }
def NeutralKnownUptoSaid : Prop := neutralKnownUptoRow.holds Try.pinned (OpenSpec.upto neutralKnownSpec)

end Rows
end Go.Proofs.Ytkmompbfcgjgmaa
