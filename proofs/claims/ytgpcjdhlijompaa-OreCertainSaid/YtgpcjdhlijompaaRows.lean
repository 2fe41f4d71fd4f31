/-
  No cell of these rows narrows 'for every input' (looked for: loops, veiled, ifaces, maps, wideKeys, modest, calm, conditions, laid).
  DERIVED. THE GIVEN ROWS OF THIS SEAT. 11 by the template 'for every input the law returns true; each argument reads behind the call as it read before'; 0 by the template 'total and deterministic' (their statements: YtgpcjdhlijompaaTotals.lean).
  GIVEN WITH THE SEED: the statements are not yours to turn. If you find one false, say at which input.
  Laid BY PROGRAM, IN A SANDBOX (cutbox-rows.mjs): the forced cells as the released guide's own fill.sh prints them over the translation 3ee669562301a7d0… (all of the seat's roots in one cut). By AI agents, Wed Nov 11 2026. No macro, syntax, notation, axiom, sorry.
-/
import Derived.Test.YtgpcjdhlijompaaChecked
import GoSem.Claim
import GoSem.ClaimJoined
import GoSem.ClaimMapViews
import Derived.JoinedTies
import Derived.KernelRfl
namespace Go.Proofs.Ytgpcjdhlijompaa
/- THE CELL 'sum', in the pinned program and in every row, IS THE sha256 OF THE DUMP (.gsa) THAT YtgpcjdhlijompaaProg.lean LOADS. Nothing in Lean hashes anything: it is a label: what it is worth is what the hold of that sum in a sandbox is worth. -/
noncomputable def Try.pinned : Pinned := { name := "ytgpcjdhlijompaa", sum := "3ee669562301a7d0a8df748c0da8701075280180af4375adf7fe7abcfdd987d0", checked := Try.checked }
namespace Rows
def none {H : Type} : Left H := { results := [], args := [] }

/-- 'agoniclaw09.OreTurns': WHATEVER THE INPUT: true; the input reads as it did. -/
def oreTurnsSpec : ChangeSpec := { name := "oreTurns", fn := fun _ => fun
  | [d1, d2, d3] => { results := [.lit (.bool true)], args := [d1, d2, d3] }
  | _ => none }
def oreTurnsRow : OpenClaim := { program := "ytgpcjdhlijompaa", sum := "3ee669562301a7d0a8df748c0da8701075280180af4375adf7fe7abcfdd987d0", func := "agonic/agoniclaw09.OreTurns", spec := "oreTurns", unfollowed := true, recurses := true, apart := false }
def OreTurnsSaid : Prop := oreTurnsRow.holds Try.pinned (OpenSpec.ofChange oreTurnsSpec)

/-- ITS FALSE NEIGHBOUR: 'it returns false'. Refute it at one input. -/
def oreTurnsWrong : ChangeSpec := { name := "oreTurns", fn := fun _ => fun
  | [d1, d2, d3] => { results := [.lit (.bool false)], args := [d1, d2, d3] }
  | _ => none }
def OreTurnsWrongFalsely : Prop := oreTurnsRow.holds Try.pinned (OpenSpec.ofChange oreTurnsWrong)

/-- 'agoniclaw09.OreIndices': WHATEVER THE INPUT: true; the input reads as it did. -/
def oreIndicesSpec : ChangeSpec := { name := "oreIndices", fn := fun _ => fun
  | [d1, d2] => { results := [.lit (.bool true)], args := [d1, d2] }
  | _ => none }
def oreIndicesRow : OpenClaim := { program := "ytgpcjdhlijompaa", sum := "3ee669562301a7d0a8df748c0da8701075280180af4375adf7fe7abcfdd987d0", func := "agonic/agoniclaw09.OreIndices", spec := "oreIndices", unfollowed := true, recurses := true, apart := false }
def OreIndicesSaid : Prop := oreIndicesRow.holds Try.pinned (OpenSpec.ofChange oreIndicesSpec)

/-- ITS FALSE NEIGHBOUR: 'it returns false'. Refute it at one input. -/
def oreIndicesWrong : ChangeSpec := { name := "oreIndices", fn := fun _ => fun
  | [d1, d2] => { results := [.lit (.bool false)], args := [d1, d2] }
  | _ => none }
def OreIndicesWrongFalsely : Prop := oreIndicesRow.holds Try.pinned (OpenSpec.ofChange oreIndicesWrong)

/-- 'agoniclaw09.OreCosts': WHATEVER THE INPUT: true; the input reads as it did. -/
def oreCostsSpec : ChangeSpec := { name := "oreCosts", fn := fun _ => fun
  | [d1, d2] => { results := [.lit (.bool true)], args := [d1, d2] }
  | _ => none }
def oreCostsRow : OpenClaim := { program := "ytgpcjdhlijompaa", sum := "3ee669562301a7d0a8df748c0da8701075280180af4375adf7fe7abcfdd987d0", func := "agonic/agoniclaw09.OreCosts", spec := "oreCosts", unfollowed := true, recurses := true, apart := false }
def OreCostsSaid : Prop := oreCostsRow.holds Try.pinned (OpenSpec.ofChange oreCostsSpec)

/-- ITS FALSE NEIGHBOUR: 'it returns false'. Refute it at one input. -/
def oreCostsWrong : ChangeSpec := { name := "oreCosts", fn := fun _ => fun
  | [d1, d2] => { results := [.lit (.bool false)], args := [d1, d2] }
  | _ => none }
def OreCostsWrongFalsely : Prop := oreCostsRow.holds Try.pinned (OpenSpec.ofChange oreCostsWrong)

/-- 'agoniclaw09.OreFinds': WHATEVER THE INPUT: true; the input reads as it did. -/
def oreFindsSpec : ChangeSpec := { name := "oreFinds", fn := fun _ => fun
  | [d1, d2] => { results := [.lit (.bool true)], args := [d1, d2] }
  | _ => none }
def oreFindsRow : OpenClaim := { program := "ytgpcjdhlijompaa", sum := "3ee669562301a7d0a8df748c0da8701075280180af4375adf7fe7abcfdd987d0", func := "agonic/agoniclaw09.OreFinds", spec := "oreFinds", unfollowed := true, recurses := true, apart := false }
def OreFindsSaid : Prop := oreFindsRow.holds Try.pinned (OpenSpec.ofChange oreFindsSpec)

/-- ITS FALSE NEIGHBOUR: 'it returns false'. Refute it at one input. -/
def oreFindsWrong : ChangeSpec := { name := "oreFinds", fn := fun _ => fun
  | [d1, d2] => { results := [.lit (.bool false)], args := [d1, d2] }
  | _ => none }
def OreFindsWrongFalsely : Prop := oreFindsRow.holds Try.pinned (OpenSpec.ofChange oreFindsWrong)

/-- 'agoniclaw09.OreBorder': WHATEVER THE INPUT: true; the input reads as it did. -/
def oreBorderSpec : ChangeSpec := { name := "oreBorder", fn := fun _ => fun
  | [d1, d2] => { results := [.lit (.bool true)], args := [d1, d2] }
  | _ => none }
def oreBorderRow : OpenClaim := { program := "ytgpcjdhlijompaa", sum := "3ee669562301a7d0a8df748c0da8701075280180af4375adf7fe7abcfdd987d0", func := "agonic/agoniclaw09.OreBorder", spec := "oreBorder", unfollowed := true, recurses := true, apart := false }
def OreBorderSaid : Prop := oreBorderRow.holds Try.pinned (OpenSpec.ofChange oreBorderSpec)

/-- ITS FALSE NEIGHBOUR: 'it returns false'. Refute it at one input. -/
def oreBorderWrong : ChangeSpec := { name := "oreBorder", fn := fun _ => fun
  | [d1, d2] => { results := [.lit (.bool false)], args := [d1, d2] }
  | _ => none }
def OreBorderWrongFalsely : Prop := oreBorderRow.holds Try.pinned (OpenSpec.ofChange oreBorderWrong)

/-- 'agoniclaw09.OreCertain': WHATEVER THE INPUT: true; the input reads as it did. -/
def oreCertainSpec : ChangeSpec := { name := "oreCertain", fn := fun _ => fun
  | [d1, d2, d3] => { results := [.lit (.bool true)], args := [d1, d2, d3] }
  | _ => none }
def oreCertainRow : OpenClaim := { program := "ytgpcjdhlijompaa", sum := "3ee669562301a7d0a8df748c0da8701075280180af4375adf7fe7abcfdd987d0", func := "agonic/agoniclaw09.OreCertain", spec := "oreCertain", unfollowed := true, recurses := true, apart := false }
def OreCertainSaid : Prop := oreCertainRow.holds Try.pinned (OpenSpec.ofChange oreCertainSpec)

/-- ITS FALSE NEIGHBOUR: 'it returns false'. Refute it at one input. -/
def oreCertainWrong : ChangeSpec := { name := "oreCertain", fn := fun _ => fun
  | [d1, d2, d3] => { results := [.lit (.bool false)], args := [d1, d2, d3] }
  | _ => none }
def OreCertainWrongFalsely : Prop := oreCertainRow.holds Try.pinned (OpenSpec.ofChange oreCertainWrong)

/-- 'agoniclaw09.OreFound': WHATEVER THE INPUT: true; the input reads as it did. -/
def oreFoundSpec : ChangeSpec := { name := "oreFound", fn := fun _ => fun
  | [d1, d2] => { results := [.lit (.bool true)], args := [d1, d2] }
  | _ => none }
def oreFoundRow : OpenClaim := { program := "ytgpcjdhlijompaa", sum := "3ee669562301a7d0a8df748c0da8701075280180af4375adf7fe7abcfdd987d0", func := "agonic/agoniclaw09.OreFound", spec := "oreFound", unfollowed := true, recurses := true, apart := false }
def OreFoundSaid : Prop := oreFoundRow.holds Try.pinned (OpenSpec.ofChange oreFoundSpec)

/-- ITS FALSE NEIGHBOUR: 'it returns false'. Refute it at one input. -/
def oreFoundWrong : ChangeSpec := { name := "oreFound", fn := fun _ => fun
  | [d1, d2] => { results := [.lit (.bool false)], args := [d1, d2] }
  | _ => none }
def OreFoundWrongFalsely : Prop := oreFoundRow.holds Try.pinned (OpenSpec.ofChange oreFoundWrong)

/-- 'agoniclaw09.OreCut': WHATEVER THE INPUT: true; the input reads as it did. -/
def oreCutSpec : ChangeSpec := { name := "oreCut", fn := fun _ => fun
  | [d1, d2] => { results := [.lit (.bool true)], args := [d1, d2] }
  | _ => none }
def oreCutRow : OpenClaim := { program := "ytgpcjdhlijompaa", sum := "3ee669562301a7d0a8df748c0da8701075280180af4375adf7fe7abcfdd987d0", func := "agonic/agoniclaw09.OreCut", spec := "oreCut", unfollowed := true, recurses := true, apart := false }
def OreCutSaid : Prop := oreCutRow.holds Try.pinned (OpenSpec.ofChange oreCutSpec)

/-- ITS FALSE NEIGHBOUR: 'it returns false'. Refute it at one input. -/
def oreCutWrong : ChangeSpec := { name := "oreCut", fn := fun _ => fun
  | [d1, d2] => { results := [.lit (.bool false)], args := [d1, d2] }
  | _ => none }
def OreCutWrongFalsely : Prop := oreCutRow.holds Try.pinned (OpenSpec.ofChange oreCutWrong)

/-- 'agoniclaw09.OreTurned': WHATEVER THE INPUT: true; the input reads as it did. -/
def oreTurnedSpec : ChangeSpec := { name := "oreTurned", fn := fun _ => fun
  | [d1, d2, d3] => { results := [.lit (.bool true)], args := [d1, d2, d3] }
  | _ => none }
def oreTurnedRow : OpenClaim := { program := "ytgpcjdhlijompaa", sum := "3ee669562301a7d0a8df748c0da8701075280180af4375adf7fe7abcfdd987d0", func := "agonic/agoniclaw09.OreTurned", spec := "oreTurned", unfollowed := true, recurses := true, apart := false }
def OreTurnedSaid : Prop := oreTurnedRow.holds Try.pinned (OpenSpec.ofChange oreTurnedSpec)

/-- ITS FALSE NEIGHBOUR: 'it returns false'. Refute it at one input. -/
def oreTurnedWrong : ChangeSpec := { name := "oreTurned", fn := fun _ => fun
  | [d1, d2, d3] => { results := [.lit (.bool false)], args := [d1, d2, d3] }
  | _ => none }
def OreTurnedWrongFalsely : Prop := oreTurnedRow.holds Try.pinned (OpenSpec.ofChange oreTurnedWrong)

/-- 'agoniclaw09.OreTurn': WHATEVER THE INPUT: true; the input reads as it did. -/
def oreTurnSpec : ChangeSpec := { name := "oreTurn", fn := fun _ => fun
  | [d1, d2] => { results := [.lit (.bool true)], args := [d1, d2] }
  | _ => none }
def oreTurnRow : OpenClaim := { program := "ytgpcjdhlijompaa", sum := "3ee669562301a7d0a8df748c0da8701075280180af4375adf7fe7abcfdd987d0", func := "agonic/agoniclaw09.OreTurn", spec := "oreTurn", unfollowed := true, recurses := true, apart := false }
def OreTurnSaid : Prop := oreTurnRow.holds Try.pinned (OpenSpec.ofChange oreTurnSpec)

/-- ITS FALSE NEIGHBOUR: 'it returns false'. Refute it at one input. -/
def oreTurnWrong : ChangeSpec := { name := "oreTurn", fn := fun _ => fun
  | [d1, d2] => { results := [.lit (.bool false)], args := [d1, d2] }
  | _ => none }
def OreTurnWrongFalsely : Prop := oreTurnRow.holds Try.pinned (OpenSpec.ofChange oreTurnWrong)

/-- 'agoniclaw09.OreKnown': WHATEVER THE INPUT: true; the input reads as it did. -/
def oreKnownSpec : ChangeSpec := { name := "oreKnown", fn := fun _ => fun
  | [] => { results := [.lit (.bool true)], args := [] }
  | _ => none }
def oreKnownRow : OpenClaim := { program := "ytgpcjdhlijompaa", sum := "3ee669562301a7d0a8df748c0da8701075280180af4375adf7fe7abcfdd987d0", func := "agonic/agoniclaw09.OreKnown", spec := "oreKnown", unfollowed := true, recurses := true, apart := false }
def OreKnownSaid : Prop := oreKnownRow.holds Try.pinned (OpenSpec.ofChange oreKnownSpec)

/-- ITS FALSE NEIGHBOUR: 'it returns false'. Refute it at one input. -/
def oreKnownWrong : ChangeSpec := { name := "oreKnown", fn := fun _ => fun
  | [] => { results := [.lit (.bool false)], args := [] }
  | _ => none }
def OreKnownWrongFalsely : Prop := oreKnownRow.holds Try.pinned (OpenSpec.ofChange oreKnownWrong)

/- THE SECOND FORM. 'bulk': how many values and letters a reading holds, each counted each time it is reached (what is shared counts as often as it is met; a slice's spare places count too). A statement '..UptoSaid' is the law's where the arguments, and the package variables that the reading takes, are together of bulk at most 1048576: NARROWER than '..Said'. Prove '..Said' where nothing that the law and all that it calls make is longer than what came in: it says more and counts as full. Else prove '..UptoSaid'. A law counts once. -/
mutual
def uptoBulk {H : Type} : DataW H → Nat
  | .lit (.string bytes) => bytes.length + 1
  | .lit _ => 1
  | .nil => 1
  | .ptr d => uptoBulk d + 1
  | .slice elems spare => uptoBulkAll elems + uptoBulkAll spare + 1
  | .agg parts => uptoBulkAll parts + 1
  | .iface _ d => uptoBulk d + 1
  | .map entries => uptoBulkEntries entries + 1
  | .held _ => 1
def uptoBulkAll {H : Type} : List (DataW H) → Nat
  | [] => 0
  | d :: r => uptoBulk d + uptoBulkAll r
def uptoBulkEntries {H : Type} : List (Lit × DataW H) → Nat
  | [] => 0
  | x :: r => uptoBulkEntry x + uptoBulkEntries r
def uptoBulkEntry {H : Type} : Lit × DataW H → Nat
  | (.string bytes, d) => bytes.length + uptoBulk d + 1
  | (_, d) => uptoBulk d + 1
 end
def uptoSmall : (H : Type) → List (DataW H) → Bool := fun _ ds => decide (uptoBulkAll ds ≤ 1048576)
def OpenSpec.upto (s : _root_.Go.ChangeSpec) : _root_.Go.OpenSpec := { _root_.Go.OpenSpec.ofChange s with cond := some uptoSmall }

/-- 'agoniclaw09.OreTurns', WHERE WHAT IT READS IS OF BULK AT MOST 1048576: true; the input reads as it did. -/
def oreTurnsUptoRow : OpenClaim := { program := "ytgpcjdhlijompaa", sum := "3ee669562301a7d0a8df748c0da8701075280180af4375adf7fe7abcfdd987d0", func := "agonic/agoniclaw09.OreTurns", spec := "oreTurns", unfollowed := true, recurses := true, apart := false, narrowed := true }
def OreTurnsUptoSaid : Prop := oreTurnsUptoRow.holds Try.pinned (OpenSpec.upto oreTurnsSpec)

/-- 'agoniclaw09.OreIndices', WHERE WHAT IT READS IS OF BULK AT MOST 1048576: true; the input reads as it did. -/
def oreIndicesUptoRow : OpenClaim := { program := "ytgpcjdhlijompaa", sum := "3ee669562301a7d0a8df748c0da8701075280180af4375adf7fe7abcfdd987d0", func := "agonic/agoniclaw09.OreIndices", spec := "oreIndices", unfollowed := true, recurses := true, apart := false, narrowed := true }
def OreIndicesUptoSaid : Prop := oreIndicesUptoRow.holds Try.pinned (OpenSpec.upto oreIndicesSpec)

/-- 'agoniclaw09.OreCosts', WHERE WHAT IT READS IS OF BULK AT MOST 1048576: true; the input reads as it did. -/
def oreCostsUptoRow : OpenClaim := { program := "ytgpcjdhlijompaa", sum := "3ee669562301a7d0a8df748c0da8701075280180af4375adf7fe7abcfdd987d0", func := "agonic/agoniclaw09.OreCosts", spec := "oreCosts", unfollowed := true, recurses := true, apart := false, narrowed := true }
def OreCostsUptoSaid : Prop := oreCostsUptoRow.holds Try.pinned (OpenSpec.upto oreCostsSpec)

/-- 'agoniclaw09.OreFinds', WHERE WHAT IT READS IS OF BULK AT MOST 1048576: true; the input reads as it did. -/
def oreFindsUptoRow : OpenClaim := { program := "ytgpcjdhlijompaa", sum := "3ee669562301a7d0a8df748c0da8701075280180af4375adf7fe7abcfdd987d0", func := "agonic/agoniclaw09.OreFinds", spec := "oreFinds", unfollowed := true, recurses := true, apart := false, narrowed := true }
def OreFindsUptoSaid : Prop := oreFindsUptoRow.holds Try.pinned (OpenSpec.upto oreFindsSpec)

/-- 'agoniclaw09.OreBorder', WHERE WHAT IT READS IS OF BULK AT MOST 1048576: true; the input reads as it did. -/
def oreBorderUptoRow : OpenClaim := { program := "ytgpcjdhlijompaa", sum := "3ee669562301a7d0a8df748c0da8701075280180af4375adf7fe7abcfdd987d0", func := "agonic/agoniclaw09.OreBorder", spec := "oreBorder", unfollowed := true, recurses := true, apart := false, narrowed := true }
def OreBorderUptoSaid : Prop := oreBorderUptoRow.holds Try.pinned (OpenSpec.upto oreBorderSpec)

/-- 'agoniclaw09.OreCertain', WHERE WHAT IT READS IS OF BULK AT MOST 1048576: true; the input reads as it did. -/
def oreCertainUptoRow : OpenClaim := { program := "ytgpcjdhlijompaa", sum := "3ee669562301a7d0a8df748c0da8701075280180af4375adf7fe7abcfdd987d0", func := "agonic/agoniclaw09.OreCertain", spec := "oreCertain", unfollowed := true, recurses := true, apart := false, narrowed := true }
def OreCertainUptoSaid : Prop := oreCertainUptoRow.holds Try.pinned (OpenSpec.upto oreCertainSpec)

/-- 'agoniclaw09.OreFound', WHERE WHAT IT READS IS OF BULK AT MOST 1048576: true; the input reads as it did. -/
def oreFoundUptoRow : OpenClaim := { program := "ytgpcjdhlijompaa", sum := "3ee669562301a7d0a8df748c0da8701075280180af4375adf7fe7abcfdd987d0", func := "agonic/agoniclaw09.OreFound", spec := "oreFound", unfollowed := true, recurses := true, apart := false, narrowed := true }
def OreFoundUptoSaid : Prop := oreFoundUptoRow.holds Try.pinned (OpenSpec.upto oreFoundSpec)

/-- 'agoniclaw09.OreCut', WHERE WHAT IT READS IS OF BULK AT MOST 1048576: true; the input reads as it did. -/
def oreCutUptoRow : OpenClaim := { program := "ytgpcjdhlijompaa", sum := "3ee669562301a7d0a8df748c0da8701075280180af4375adf7fe7abcfdd987d0", func := "agonic/agoniclaw09.OreCut", spec := "oreCut", unfollowed := true, recurses := true, apart := false, narrowed := true }
def OreCutUptoSaid : Prop := oreCutUptoRow.holds Try.pinned (OpenSpec.upto oreCutSpec)

/-- 'agoniclaw09.OreTurned', WHERE WHAT IT READS IS OF BULK AT MOST 1048576: true; the input reads as it did. -/
def oreTurnedUptoRow : OpenClaim := { program := "ytgpcjdhlijompaa", sum := "3ee669562301a7d0a8df748c0da8701075280180af4375adf7fe7abcfdd987d0", func := "agonic/agoniclaw09.OreTurned", spec := "oreTurned", unfollowed := true, recurses := true, apart := false, narrowed := true }
def OreTurnedUptoSaid : Prop := oreTurnedUptoRow.holds Try.pinned (OpenSpec.upto oreTurnedSpec)

/-- 'agoniclaw09.OreTurn', WHERE WHAT IT READS IS OF BULK AT MOST 1048576: true; the input reads as it did. -/
def oreTurnUptoRow : OpenClaim := { program := "ytgpcjdhlijompaa", sum := "3ee669562301a7d0a8df748c0da8701075280180af4375adf7fe7abcfdd987d0", func := "agonic/agoniclaw09.OreTurn", spec := "oreTurn", unfollowed := true, recurses := true, apart := false, narrowed := true }
def OreTurnUptoSaid : Prop := oreTurnUptoRow.holds Try.pinned (OpenSpec.upto oreTurnSpec)

/-- 'agoniclaw09.OreKnown', WHERE WHAT IT READS IS OF BULK AT MOST 1048576: true; the input reads as it did. -/
def oreKnownUptoRow : OpenClaim := { program := "ytgpcjdhlijompaa", sum := "3ee669562301a7d0a8df748c0da8701075280180af4375adf7fe7abcfdd987d0", func := "agonic/agoniclaw09.OreKnown", spec := "oreKnown", unfollowed := true, recurses := true, apart := false, narrowed := true }
def OreKnownUptoSaid : Prop := oreKnownUptoRow.holds Try.pinned (OpenSpec.upto oreKnownSpec)

end Rows
end Go.Proofs.Ytgpcjdhlijompaa
