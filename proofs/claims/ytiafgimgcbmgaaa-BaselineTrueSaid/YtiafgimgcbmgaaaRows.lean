/-
  No cell of these rows narrows 'for every input' (looked for: loops, veiled, ifaces, maps, wideKeys, modest, calm, conditions, laid).
  DERIVED. THE GIVEN ROWS OF THIS SEAT. 12 by the template 'for every input the law returns true; each argument reads behind the call as it read before'; 0 by the template 'total and deterministic' (their statements: YtiafgimgcbmgaaaTotals.lean).
  GIVEN WITH THE SEED: the statements are not yours to turn. If you find one false, say at which input.
  Laid BY PROGRAM, IN A SANDBOX (cutbox-rows.mjs): the forced cells as the released guide's own fill.sh prints them over the translation f8715cde26949065… (all of the seat's roots in one cut). By AI agents, Wed Nov 11 2026. No macro, syntax, notation, axiom, sorry.
-/
import Derived.Test.YtiafgimgcbmgaaaChecked
import GoSem.Claim
import GoSem.ClaimJoined
import GoSem.ClaimMapViews
import Derived.JoinedTies
import Derived.KernelRfl
namespace Go.Proofs.Ytiafgimgcbmgaaa
/- THE CELL 'sum', in the pinned program and in every row, IS THE sha256 OF THE DUMP (.gsa) THAT YtiafgimgcbmgaaaProg.lean LOADS. Nothing in Lean hashes anything: it is a label: what it is worth is what the hold of that sum in a sandbox is worth. -/
noncomputable def Try.pinned : Pinned := { name := "ytiafgimgcbmgaaa", sum := "f8715cde26949065906f9b768276f960e93314bcfb833e0f720c2ec6269b5f44", checked := Try.checked }
namespace Rows
def none {H : Type} : Left H := { results := [], args := [] }

/-- 'agoniclaw02.BaselineSteps': WHATEVER THE INPUT: true; the input reads as it did. -/
def baselineStepsSpec : ChangeSpec := { name := "baselineSteps", fn := fun _ => fun
  | [d1, d2] => { results := [.lit (.bool true)], args := [d1, d2] }
  | _ => none }
def baselineStepsRow : OpenClaim := { program := "ytiafgimgcbmgaaa", sum := "f8715cde26949065906f9b768276f960e93314bcfb833e0f720c2ec6269b5f44", func := "agonic/agoniclaw02.BaselineSteps", spec := "baselineSteps", unfollowed := true, recurses := true, plainKeys := false, apart := false }
def BaselineStepsSaid : Prop := baselineStepsRow.holds Try.pinned (OpenSpec.ofChange baselineStepsSpec)

/-- ITS FALSE NEIGHBOUR: 'it returns false'. Refute it at one input. -/
def baselineStepsWrong : ChangeSpec := { name := "baselineSteps", fn := fun _ => fun
  | [d1, d2] => { results := [.lit (.bool false)], args := [d1, d2] }
  | _ => none }
def BaselineStepsWrongFalsely : Prop := baselineStepsRow.holds Try.pinned (OpenSpec.ofChange baselineStepsWrong)

/-- 'agoniclaw02.BaselinePairs': WHATEVER THE INPUT: true; the input reads as it did. -/
def baselinePairsSpec : ChangeSpec := { name := "baselinePairs", fn := fun _ => fun
  | [d1, d2] => { results := [.lit (.bool true)], args := [d1, d2] }
  | _ => none }
def baselinePairsRow : OpenClaim := { program := "ytiafgimgcbmgaaa", sum := "f8715cde26949065906f9b768276f960e93314bcfb833e0f720c2ec6269b5f44", func := "agonic/agoniclaw02.BaselinePairs", spec := "baselinePairs", unfollowed := true, recurses := true, plainKeys := false, apart := false }
def BaselinePairsSaid : Prop := baselinePairsRow.holds Try.pinned (OpenSpec.ofChange baselinePairsSpec)

/-- ITS FALSE NEIGHBOUR: 'it returns false'. Refute it at one input. -/
def baselinePairsWrong : ChangeSpec := { name := "baselinePairs", fn := fun _ => fun
  | [d1, d2] => { results := [.lit (.bool false)], args := [d1, d2] }
  | _ => none }
def BaselinePairsWrongFalsely : Prop := baselinePairsRow.holds Try.pinned (OpenSpec.ofChange baselinePairsWrong)

/-- 'agonictop.TopTraced': WHATEVER THE INPUT: true; the input reads as it did. -/
def topTracedSpec : ChangeSpec := { name := "topTraced", fn := fun _ => fun
  | [d1, d2, d3, d4, d5, d6, d7, d8] => { results := [.lit (.bool true)], args := [d1, d2, d3, d4, d5, d6, d7, d8] }
  | _ => none }
def topTracedRow : OpenClaim := { program := "ytiafgimgcbmgaaa", sum := "f8715cde26949065906f9b768276f960e93314bcfb833e0f720c2ec6269b5f44", func := "agonic/agonictop.TopTraced", spec := "topTraced", unfollowed := true, recurses := true, plainKeys := false, apart := false }
def TopTracedSaid : Prop := topTracedRow.holds Try.pinned (OpenSpec.ofChange topTracedSpec)

/-- ITS FALSE NEIGHBOUR: 'it returns false'. Refute it at one input. -/
def topTracedWrong : ChangeSpec := { name := "topTraced", fn := fun _ => fun
  | [d1, d2, d3, d4, d5, d6, d7, d8] => { results := [.lit (.bool false)], args := [d1, d2, d3, d4, d5, d6, d7, d8] }
  | _ => none }
def TopTracedWrongFalsely : Prop := topTracedRow.holds Try.pinned (OpenSpec.ofChange topTracedWrong)

/-- 'agoniclaw02.BaselineValues': WHATEVER THE INPUT: true; the input reads as it did. -/
def baselineValuesSpec : ChangeSpec := { name := "baselineValues", fn := fun _ => fun
  | [d1, d2, d3] => { results := [.lit (.bool true)], args := [d1, d2, d3] }
  | _ => none }
def baselineValuesRow : OpenClaim := { program := "ytiafgimgcbmgaaa", sum := "f8715cde26949065906f9b768276f960e93314bcfb833e0f720c2ec6269b5f44", func := "agonic/agoniclaw02.BaselineValues", spec := "baselineValues", unfollowed := true, recurses := true, plainKeys := false, apart := false }
def BaselineValuesSaid : Prop := baselineValuesRow.holds Try.pinned (OpenSpec.ofChange baselineValuesSpec)

/-- ITS FALSE NEIGHBOUR: 'it returns false'. Refute it at one input. -/
def baselineValuesWrong : ChangeSpec := { name := "baselineValues", fn := fun _ => fun
  | [d1, d2, d3] => { results := [.lit (.bool false)], args := [d1, d2, d3] }
  | _ => none }
def BaselineValuesWrongFalsely : Prop := baselineValuesRow.holds Try.pinned (OpenSpec.ofChange baselineValuesWrong)

/-- 'agoniclaw02.BaselineFewest': WHATEVER THE INPUT: true; the input reads as it did. -/
def baselineFewestSpec : ChangeSpec := { name := "baselineFewest", fn := fun _ => fun
  | [d] => { results := [.lit (.bool true)], args := [d] }
  | _ => none }
def baselineFewestRow : OpenClaim := { program := "ytiafgimgcbmgaaa", sum := "f8715cde26949065906f9b768276f960e93314bcfb833e0f720c2ec6269b5f44", func := "agonic/agoniclaw02.BaselineFewest", spec := "baselineFewest", unfollowed := true, recurses := true, plainKeys := false, apart := false }
def BaselineFewestSaid : Prop := baselineFewestRow.holds Try.pinned (OpenSpec.ofChange baselineFewestSpec)

/-- ITS FALSE NEIGHBOUR: 'it returns false'. Refute it at one input. -/
def baselineFewestWrong : ChangeSpec := { name := "baselineFewest", fn := fun _ => fun
  | [d] => { results := [.lit (.bool false)], args := [d] }
  | _ => none }
def BaselineFewestWrongFalsely : Prop := baselineFewestRow.holds Try.pinned (OpenSpec.ofChange baselineFewestWrong)

/-- 'agoniclaw02.BaselineExact': WHATEVER THE INPUT: true; the input reads as it did. -/
def baselineExactSpec : ChangeSpec := { name := "baselineExact", fn := fun _ => fun
  | [d1, d2, d3] => { results := [.lit (.bool true)], args := [d1, d2, d3] }
  | _ => none }
def baselineExactRow : OpenClaim := { program := "ytiafgimgcbmgaaa", sum := "f8715cde26949065906f9b768276f960e93314bcfb833e0f720c2ec6269b5f44", func := "agonic/agoniclaw02.BaselineExact", spec := "baselineExact", unfollowed := true, recurses := true, plainKeys := false, apart := false }
def BaselineExactSaid : Prop := baselineExactRow.holds Try.pinned (OpenSpec.ofChange baselineExactSpec)

/-- ITS FALSE NEIGHBOUR: 'it returns false'. Refute it at one input. -/
def baselineExactWrong : ChangeSpec := { name := "baselineExact", fn := fun _ => fun
  | [d1, d2, d3] => { results := [.lit (.bool false)], args := [d1, d2, d3] }
  | _ => none }
def BaselineExactWrongFalsely : Prop := baselineExactRow.holds Try.pinned (OpenSpec.ofChange baselineExactWrong)

/-- 'agoniclaw02.BaselineTrue': WHATEVER THE INPUT: true; the input reads as it did. -/
def baselineTrueSpec : ChangeSpec := { name := "baselineTrue", fn := fun _ => fun
  | [d1, d2, d3, d4, d5] => { results := [.lit (.bool true)], args := [d1, d2, d3, d4, d5] }
  | _ => none }
def baselineTrueRow : OpenClaim := { program := "ytiafgimgcbmgaaa", sum := "f8715cde26949065906f9b768276f960e93314bcfb833e0f720c2ec6269b5f44", func := "agonic/agoniclaw02.BaselineTrue", spec := "baselineTrue", unfollowed := true, recurses := true, plainKeys := false, apart := false }
def BaselineTrueSaid : Prop := baselineTrueRow.holds Try.pinned (OpenSpec.ofChange baselineTrueSpec)

/-- ITS FALSE NEIGHBOUR: 'it returns false'. Refute it at one input. -/
def baselineTrueWrong : ChangeSpec := { name := "baselineTrue", fn := fun _ => fun
  | [d1, d2, d3, d4, d5] => { results := [.lit (.bool false)], args := [d1, d2, d3, d4, d5] }
  | _ => none }
def BaselineTrueWrongFalsely : Prop := baselineTrueRow.holds Try.pinned (OpenSpec.ofChange baselineTrueWrong)

/-- 'agoniclaw02.BaselineMore': WHATEVER THE INPUT: true; the input reads as it did. -/
def baselineMoreSpec : ChangeSpec := { name := "baselineMore", fn := fun _ => fun
  | [d1, d2, d3, d4, d5, d6] => { results := [.lit (.bool true)], args := [d1, d2, d3, d4, d5, d6] }
  | _ => none }
def baselineMoreRow : OpenClaim := { program := "ytiafgimgcbmgaaa", sum := "f8715cde26949065906f9b768276f960e93314bcfb833e0f720c2ec6269b5f44", func := "agonic/agoniclaw02.BaselineMore", spec := "baselineMore", unfollowed := true, recurses := true, plainKeys := false, apart := false }
def BaselineMoreSaid : Prop := baselineMoreRow.holds Try.pinned (OpenSpec.ofChange baselineMoreSpec)

/-- ITS FALSE NEIGHBOUR: 'it returns false'. Refute it at one input. -/
def baselineMoreWrong : ChangeSpec := { name := "baselineMore", fn := fun _ => fun
  | [d1, d2, d3, d4, d5, d6] => { results := [.lit (.bool false)], args := [d1, d2, d3, d4, d5, d6] }
  | _ => none }
def BaselineMoreWrongFalsely : Prop := baselineMoreRow.holds Try.pinned (OpenSpec.ofChange baselineMoreWrong)

/-- 'agonictop.TopBlamed': WHATEVER THE INPUT: true; the input reads as it did. -/
def topBlamedSpec : ChangeSpec := { name := "topBlamed", fn := fun _ => fun
  | [d1, d2, d3] => { results := [.lit (.bool true)], args := [d1, d2, d3] }
  | _ => none }
def topBlamedRow : OpenClaim := { program := "ytiafgimgcbmgaaa", sum := "f8715cde26949065906f9b768276f960e93314bcfb833e0f720c2ec6269b5f44", func := "agonic/agonictop.TopBlamed", spec := "topBlamed", unfollowed := true, recurses := true, plainKeys := false, apart := false }
def TopBlamedSaid : Prop := topBlamedRow.holds Try.pinned (OpenSpec.ofChange topBlamedSpec)

/-- ITS FALSE NEIGHBOUR: 'it returns false'. Refute it at one input. -/
def topBlamedWrong : ChangeSpec := { name := "topBlamed", fn := fun _ => fun
  | [d1, d2, d3] => { results := [.lit (.bool false)], args := [d1, d2, d3] }
  | _ => none }
def TopBlamedWrongFalsely : Prop := topBlamedRow.holds Try.pinned (OpenSpec.ofChange topBlamedWrong)

/-- 'agoniclaw02.BaselineTurned': WHATEVER THE INPUT: true; the input reads as it did. -/
def baselineTurnedSpec : ChangeSpec := { name := "baselineTurned", fn := fun _ => fun
  | [d1, d2, d3, d4, d5] => { results := [.lit (.bool true)], args := [d1, d2, d3, d4, d5] }
  | _ => none }
def baselineTurnedRow : OpenClaim := { program := "ytiafgimgcbmgaaa", sum := "f8715cde26949065906f9b768276f960e93314bcfb833e0f720c2ec6269b5f44", func := "agonic/agoniclaw02.BaselineTurned", spec := "baselineTurned", unfollowed := true, recurses := true, plainKeys := false, apart := false }
def BaselineTurnedSaid : Prop := baselineTurnedRow.holds Try.pinned (OpenSpec.ofChange baselineTurnedSpec)

/-- ITS FALSE NEIGHBOUR: 'it returns false'. Refute it at one input. -/
def baselineTurnedWrong : ChangeSpec := { name := "baselineTurned", fn := fun _ => fun
  | [d1, d2, d3, d4, d5] => { results := [.lit (.bool false)], args := [d1, d2, d3, d4, d5] }
  | _ => none }
def BaselineTurnedWrongFalsely : Prop := baselineTurnedRow.holds Try.pinned (OpenSpec.ofChange baselineTurnedWrong)

/-- 'agoniclaw02.BaselineBlamed': WHATEVER THE INPUT: true; the input reads as it did. -/
def baselineBlamedSpec : ChangeSpec := { name := "baselineBlamed", fn := fun _ => fun
  | [d1, d2] => { results := [.lit (.bool true)], args := [d1, d2] }
  | _ => none }
def baselineBlamedRow : OpenClaim := { program := "ytiafgimgcbmgaaa", sum := "f8715cde26949065906f9b768276f960e93314bcfb833e0f720c2ec6269b5f44", func := "agonic/agoniclaw02.BaselineBlamed", spec := "baselineBlamed", unfollowed := true, recurses := true, plainKeys := false, apart := false }
def BaselineBlamedSaid : Prop := baselineBlamedRow.holds Try.pinned (OpenSpec.ofChange baselineBlamedSpec)

/-- ITS FALSE NEIGHBOUR: 'it returns false'. Refute it at one input. -/
def baselineBlamedWrong : ChangeSpec := { name := "baselineBlamed", fn := fun _ => fun
  | [d1, d2] => { results := [.lit (.bool false)], args := [d1, d2] }
  | _ => none }
def BaselineBlamedWrongFalsely : Prop := baselineBlamedRow.holds Try.pinned (OpenSpec.ofChange baselineBlamedWrong)

/-- 'agoniclaw02.BaselineKnown': WHATEVER THE INPUT: true; the input reads as it did. -/
def baselineKnownSpec : ChangeSpec := { name := "baselineKnown", fn := fun _ => fun
  | [] => { results := [.lit (.bool true)], args := [] }
  | _ => none }
def baselineKnownRow : OpenClaim := { program := "ytiafgimgcbmgaaa", sum := "f8715cde26949065906f9b768276f960e93314bcfb833e0f720c2ec6269b5f44", func := "agonic/agoniclaw02.BaselineKnown", spec := "baselineKnown", unfollowed := true, recurses := true, plainKeys := false, apart := false }
def BaselineKnownSaid : Prop := baselineKnownRow.holds Try.pinned (OpenSpec.ofChange baselineKnownSpec)

/-- ITS FALSE NEIGHBOUR: 'it returns false'. Refute it at one input. -/
def baselineKnownWrong : ChangeSpec := { name := "baselineKnown", fn := fun _ => fun
  | [] => { results := [.lit (.bool false)], args := [] }
  | _ => none }
def BaselineKnownWrongFalsely : Prop := baselineKnownRow.holds Try.pinned (OpenSpec.ofChange baselineKnownWrong)

/- THE SECOND FORM. 'bulk': how many values and letters a reading holds, each counted each time it is reached (what is shared counts as often as it is met; a slice's spare places count too). A statement '..UptoSaid' is the law's where the arguments, and the package variables that the reading takes, are together of bulk at most 1048576: NARROWER than '..Said'. Prove '..Said' where nothing that the law and all that it calls make is longer than what came in: it says more and counts as full. Else prove '..UptoSaid'. A law counts once. -/
mutual
def uptoBulk {H : Type} : DataW H → Nat
  | .lit (.string bytes) => bytes.length + 1
  | .lit _ => 1
  | .nil => 1
  | .ptr d => uptoBulk d + 1
  | .slice elems spare => uptoBulkAll elems + uptoBulkAll spare + 1
  | .agg parts => uptoBulkAll parts + 1
  | .iface _ d => uptoBulk d + 1
  | .map entries => uptoBulkEntries entries + 1
  | .held _ => 1
def uptoBulkAll {H : Type} : List (DataW H) → Nat
  | [] => 0
  | d :: r => uptoBulk d + uptoBulkAll r
def uptoBulkEntries {H : Type} : List (Lit × DataW H) → Nat
  | [] => 0
  | x :: r => uptoBulkEntry x + uptoBulkEntries r
def uptoBulkEntry {H : Type} : Lit × DataW H → Nat
  | (.string bytes, d) => bytes.length + uptoBulk d + 1
  | (_, d) => uptoBulk d + 1
 end
def uptoSmall : (H : Type) → List (DataW H) → Bool := fun _ ds => decide (uptoBulkAll ds ≤ 1048576)
def OpenSpec.upto (s : _root_.Go.ChangeSpec) : _root_.Go.OpenSpec := { _root_.Go.OpenSpec.ofChange s with cond := some uptoSmall }

/-- 'agoniclaw02.BaselineSteps', WHERE WHAT IT READS IS OF BULK AT MOST 1048576: true; the input reads as it did. -/
def baselineStepsUptoRow : OpenClaim := { program := "ytiafgimgcbmgaaa", sum := "f8715cde26949065906f9b768276f960e93314bcfb833e0f720c2ec6269b5f44", func := "agonic/agoniclaw02.BaselineSteps", spec := "baselineSteps", unfollowed := true, recurses := true, plainKeys := false, apart := false, narrowed := true }
def BaselineStepsUptoSaid : Prop := baselineStepsUptoRow.holds Try.pinned (OpenSpec.upto baselineStepsSpec)

/-- 'agoniclaw02.BaselinePairs', WHERE WHAT IT READS IS OF BULK AT MOST 1048576: true; the input reads as it did. -/
def baselinePairsUptoRow : OpenClaim := { program := "ytiafgimgcbmgaaa", sum := "f8715cde26949065906f9b768276f960e93314bcfb833e0f720c2ec6269b5f44", func := "agonic/agoniclaw02.BaselinePairs", spec := "baselinePairs", unfollowed := true, recurses := true, plainKeys := false, apart := false, narrowed := true }
def BaselinePairsUptoSaid : Prop := baselinePairsUptoRow.holds Try.pinned (OpenSpec.upto baselinePairsSpec)

/-- 'agonictop.TopTraced', WHERE WHAT IT READS IS OF BULK AT MOST 1048576: true; the input reads as it did. -/
def topTracedUptoRow : OpenClaim := { program := "ytiafgimgcbmgaaa", sum := "f8715cde26949065906f9b768276f960e93314bcfb833e0f720c2ec6269b5f44", func := "agonic/agonictop.TopTraced", spec := "topTraced", unfollowed := true, recurses := true, plainKeys := false, apart := false, narrowed := true }
def TopTracedUptoSaid : Prop := topTracedUptoRow.holds Try.pinned (OpenSpec.upto topTracedSpec)

/-- 'agoniclaw02.BaselineValues', WHERE WHAT IT READS IS OF BULK AT MOST 1048576: true; the input reads as it did. -/
def baselineValuesUptoRow : OpenClaim := { program := "ytiafgimgcbmgaaa", sum := "f8715cde26949065906f9b768276f960e93314bcfb833e0f720c2ec6269b5f44", func := "agonic/agoniclaw02.BaselineValues", spec := "baselineValues", unfollowed := true, recurses := true, plainKeys := false, apart := false, narrowed := true }
def BaselineValuesUptoSaid : Prop := baselineValuesUptoRow.holds Try.pinned (OpenSpec.upto baselineValuesSpec)

/-- 'agoniclaw02.BaselineFewest', WHERE WHAT IT READS IS OF BULK AT MOST 1048576: true; the input reads as it did. -/
def baselineFewestUptoRow : OpenClaim := { program := "ytiafgimgcbmgaaa", sum := "f8715cde26949065906f9b768276f960e93314bcfb833e0f720c2ec6269b5f44", func := "agonic/agoniclaw02.BaselineFewest", spec := "baselineFewest", unfollowed := true, recurses := true, plainKeys := false, apart := false, narrowed := true }
def BaselineFewestUptoSaid : Prop := baselineFewestUptoRow.holds Try.pinned (OpenSpec.upto baselineFewestSpec)

/-- 'agoniclaw02.BaselineExact', WHERE WHAT IT READS IS OF BULK AT MOST 1048576: true; the input reads as it did. -/
def baselineExactUptoRow : OpenClaim := { program := "ytiafgimgcbmgaaa", sum := "f8715cde26949065906f9b768276f960e93314bcfb833e0f720c2ec6269b5f44", func := "agonic/agoniclaw02.BaselineExact", spec := "baselineExact", unfollowed := true, recurses := true, plainKeys := false, apart := false, narrowed := true }
def BaselineExactUptoSaid : Prop := baselineExactUptoRow.holds Try.pinned (OpenSpec.upto baselineExactSpec)

/-- 'agoniclaw02.BaselineTrue', WHERE WHAT IT READS IS OF BULK AT MOST 1048576: true; the input reads as it did. -/
def baselineTrueUptoRow : OpenClaim := { program := "ytiafgimgcbmgaaa", sum := "f8715cde26949065906f9b768276f960e93314bcfb833e0f720c2ec6269b5f44", func := "agonic/agoniclaw02.BaselineTrue", spec := "baselineTrue", unfollowed := true, recurses := true, plainKeys := false, apart := false, narrowed := true }
def BaselineTrueUptoSaid : Prop := baselineTrueUptoRow.holds Try.pinned (OpenSpec.upto baselineTrueSpec)

/-- 'agoniclaw02.BaselineMore', WHERE WHAT IT READS IS OF BULK AT MOST 1048576: true; the input reads as it did. -/
def baselineMoreUptoRow : OpenClaim := { program := "ytiafgimgcbmgaaa", sum := "f8715cde26949065906f9b768276f960e93314bcfb833e0f720c2ec6269b5f44", func := "agonic/agoniclaw02.BaselineMore", spec := "baselineMore", unfollowed := true, recurses := true, plainKeys := false, apart := false, narrowed := true }
def BaselineMoreUptoSaid : Prop := baselineMoreUptoRow.holds Try.pinned (OpenSpec.upto baselineMoreSpec)

/-- 'agonictop.TopBlamed', WHERE WHAT IT READS IS OF BULK AT MOST 1048576: true; the input reads as it did. -/
def topBlamedUptoRow : OpenClaim := { program := "ytiafgimgcbmgaaa", sum := "f8715cde26949065906f9b768276f960e93314bcfb833e0f720c2ec6269b5f44", func := "agonic/agonictop.TopBlamed", spec := "topBlamed", unfollowed := true, recurses := true, plainKeys := false, apart := false, narrowed := true }
def TopBlamedUptoSaid : Prop := topBlamedUptoRow.holds Try.pinned (OpenSpec.upto topBlamedSpec)

/-- 'agoniclaw02.BaselineTurned', WHERE WHAT IT READS IS OF BULK AT MOST 1048576: true; the input reads as it did. -/
def baselineTurnedUptoRow : OpenClaim := { program := "ytiafgimgcbmgaaa", sum := "f8715cde26949065906f9b768276f960e93314bcfb833e0f720c2ec6269b5f44", func := "agonic/agoniclaw02.BaselineTurned", spec := "baselineTurned", unfollowed := true, recurses := true, plainKeys := false, apart := false, narrowed := true }
def BaselineTurnedUptoSaid : Prop := baselineTurnedUptoRow.holds Try.pinned (OpenSpec.upto baselineTurnedSpec)

/-- 'agoniclaw02.BaselineBlamed', WHERE WHAT IT READS IS OF BULK AT MOST 1048576: true; the input reads as it did. -/
def baselineBlamedUptoRow : OpenClaim := { program := "ytiafgimgcbmgaaa", sum := "f8715cde26949065906f9b768276f960e93314bcfb833e0f720c2ec6269b5f44", func := "agonic/agoniclaw02.BaselineBlamed", spec := "baselineBlamed", unfollowed := true, recurses := true, plainKeys := false, apart := false, narrowed := true }
def BaselineBlamedUptoSaid : Prop := baselineBlamedUptoRow.holds Try.pinned (OpenSpec.upto baselineBlamedSpec)

/-- 'agoniclaw02.BaselineKnown', WHERE WHAT IT READS IS OF BULK AT MOST 1048576: true; the input reads as it did. -/
def baselineKnownUptoRow : OpenClaim := { program := "ytiafgimgcbmgaaa", sum := "f8715cde26949065906f9b768276f960e93314bcfb833e0f720c2ec6269b5f44", func := "agonic/agoniclaw02.BaselineKnown", spec := "baselineKnown", unfollowed := true, recurses := true, plainKeys := false, apart := false, narrowed := true }
def BaselineKnownUptoSaid : Prop := baselineKnownUptoRow.holds Try.pinned (OpenSpec.upto baselineKnownSpec)

end Rows
end Go.Proofs.Ytiafgimgcbmgaaa
