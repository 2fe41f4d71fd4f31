/-
  No cell of these rows narrows 'for every input' (looked for: loops, veiled, ifaces, maps, wideKeys, modest, calm, conditions, laid).
  DERIVED. THE GIVEN ROWS OF THIS SEAT. 11 by the template 'for every input the law returns true; each argument reads behind the call as it read before'; 0 by the template 'total and deterministic' (their statements: YtjimphlkhjmaiaaTotals.lean).
  GIVEN WITH THE SEED: the statements are not yours to turn. If you find one false, say at which input.
  Laid BY PROGRAM, IN A SANDBOX (cutbox-rows.mjs): the forced cells as the released guide's own fill.sh prints them over the translation 4007e15548de2af9… (all of the seat's roots in one cut). By AI agents, Wed Nov 11 2026. No macro, syntax, notation, axiom, sorry.
-/
import Derived.Test.YtjimphlkhjmaiaaChecked
import GoSem.Claim
import GoSem.ClaimJoined
import GoSem.ClaimMapViews
import Derived.JoinedTies
import Derived.KernelRfl
namespace Go.Proofs.Ytjimphlkhjmaiaa
/- THE CELL 'sum', in the pinned program and in every row, IS THE sha256 OF THE DUMP (.gsa) THAT YtjimphlkhjmaiaaProg.lean LOADS. Nothing in Lean hashes anything: it is a label: what it is worth is what the hold of that sum in a sandbox is worth. -/
noncomputable def Try.pinned : Pinned := { name := "ytjimphlkhjmaiaa", sum := "4007e15548de2af92262e7c94e416dfe30414f6937f34403e447f09bdeaacd8d", checked := Try.checked }
namespace Rows
def none {H : Type} : Left H := { results := [], args := [] }

/-- 'agoniclaw13.SwingRims': WHATEVER THE INPUT: true; the input reads as it did. -/
def swingRimsSpec : ChangeSpec := { name := "swingRims", fn := fun _ => fun
  | [d] => { results := [.lit (.bool true)], args := [d] }
  | _ => none }
def swingRimsRow : OpenClaim := { program := "ytjimphlkhjmaiaa", sum := "4007e15548de2af92262e7c94e416dfe30414f6937f34403e447f09bdeaacd8d", func := "agonic/agoniclaw13.SwingRims", spec := "swingRims", inPlace := ["internal/bytealg.IndexByteString", "internal/bytealg.IndexString", "internal/abi.NoEscape", "internal/bytealg.MakeNoZero"], unfollowed := true, recurses := true, named := ["internal/bytealg.MaxLen"], apart := false }
def SwingRimsSaid : Prop := swingRimsRow.holds Try.pinned (OpenSpec.ofChange swingRimsSpec)

/-- ITS FALSE NEIGHBOUR: 'it returns false'. Refute it at one input. -/
def swingRimsWrong : ChangeSpec := { name := "swingRims", fn := fun _ => fun
  | [d] => { results := [.lit (.bool false)], args := [d] }
  | _ => none }
def SwingRimsWrongFalsely : Prop := swingRimsRow.holds Try.pinned (OpenSpec.ofChange swingRimsWrong)

/-- 'agoniclaw13.SwingWheres': WHATEVER THE INPUT: true; the input reads as it did. -/
def swingWheresSpec : ChangeSpec := { name := "swingWheres", fn := fun _ => fun
  | [d1, d2] => { results := [.lit (.bool true)], args := [d1, d2] }
  | _ => none }
def swingWheresRow : OpenClaim := { program := "ytjimphlkhjmaiaa", sum := "4007e15548de2af92262e7c94e416dfe30414f6937f34403e447f09bdeaacd8d", func := "agonic/agoniclaw13.SwingWheres", spec := "swingWheres", inPlace := ["internal/bytealg.IndexByteString", "internal/bytealg.IndexString", "internal/abi.NoEscape", "internal/bytealg.MakeNoZero"], unfollowed := true, recurses := true, named := ["internal/bytealg.MaxLen"], apart := false }
def SwingWheresSaid : Prop := swingWheresRow.holds Try.pinned (OpenSpec.ofChange swingWheresSpec)

/-- ITS FALSE NEIGHBOUR: 'it returns false'. Refute it at one input. -/
def swingWheresWrong : ChangeSpec := { name := "swingWheres", fn := fun _ => fun
  | [d1, d2] => { results := [.lit (.bool false)], args := [d1, d2] }
  | _ => none }
def SwingWheresWrongFalsely : Prop := swingWheresRow.holds Try.pinned (OpenSpec.ofChange swingWheresWrong)

/-- 'agoniclaw13.SwingRings': WHATEVER THE INPUT: true; the input reads as it did. -/
def swingRingsSpec : ChangeSpec := { name := "swingRings", fn := fun _ => fun
  | [d] => { results := [.lit (.bool true)], args := [d] }
  | _ => none }
def swingRingsRow : OpenClaim := { program := "ytjimphlkhjmaiaa", sum := "4007e15548de2af92262e7c94e416dfe30414f6937f34403e447f09bdeaacd8d", func := "agonic/agoniclaw13.SwingRings", spec := "swingRings", inPlace := ["internal/abi.NoEscape", "internal/bytealg.IndexByteString", "internal/bytealg.IndexString", "internal/bytealg.MakeNoZero"], unfollowed := true, recurses := true, named := ["internal/bytealg.MaxLen"], apart := false }
def SwingRingsSaid : Prop := swingRingsRow.holds Try.pinned (OpenSpec.ofChange swingRingsSpec)

/-- ITS FALSE NEIGHBOUR: 'it returns false'. Refute it at one input. -/
def swingRingsWrong : ChangeSpec := { name := "swingRings", fn := fun _ => fun
  | [d] => { results := [.lit (.bool false)], args := [d] }
  | _ => none }
def SwingRingsWrongFalsely : Prop := swingRingsRow.holds Try.pinned (OpenSpec.ofChange swingRingsWrong)

/-- 'agoniclaw13.SwingFactors': WHATEVER THE INPUT: true; the input reads as it did. -/
def swingFactorsSpec : ChangeSpec := { name := "swingFactors", fn := fun _ => fun
  | [d] => { results := [.lit (.bool true)], args := [d] }
  | _ => none }
def swingFactorsRow : OpenClaim := { program := "ytjimphlkhjmaiaa", sum := "4007e15548de2af92262e7c94e416dfe30414f6937f34403e447f09bdeaacd8d", func := "agonic/agoniclaw13.SwingFactors", spec := "swingFactors", inPlace := ["internal/bytealg.IndexByteString", "internal/bytealg.IndexString", "internal/abi.NoEscape", "internal/bytealg.MakeNoZero"], unfollowed := true, recurses := true, named := ["internal/bytealg.MaxLen"], apart := false }
def SwingFactorsSaid : Prop := swingFactorsRow.holds Try.pinned (OpenSpec.ofChange swingFactorsSpec)

/-- ITS FALSE NEIGHBOUR: 'it returns false'. Refute it at one input. -/
def swingFactorsWrong : ChangeSpec := { name := "swingFactors", fn := fun _ => fun
  | [d] => { results := [.lit (.bool false)], args := [d] }
  | _ => none }
def SwingFactorsWrongFalsely : Prop := swingFactorsRow.holds Try.pinned (OpenSpec.ofChange swingFactorsWrong)

/-- 'agoniclaw13.SwingSmallest': WHATEVER THE INPUT: true; the input reads as it did. -/
def swingSmallestSpec : ChangeSpec := { name := "swingSmallest", fn := fun _ => fun
  | [d1, d2] => { results := [.lit (.bool true)], args := [d1, d2] }
  | _ => none }
def swingSmallestRow : OpenClaim := { program := "ytjimphlkhjmaiaa", sum := "4007e15548de2af92262e7c94e416dfe30414f6937f34403e447f09bdeaacd8d", func := "agonic/agoniclaw13.SwingSmallest", spec := "swingSmallest", inPlace := ["internal/bytealg.IndexByteString", "internal/bytealg.IndexString", "internal/abi.NoEscape", "internal/bytealg.MakeNoZero"], unfollowed := true, recurses := true, named := ["internal/bytealg.MaxLen"], apart := false }
def SwingSmallestSaid : Prop := swingSmallestRow.holds Try.pinned (OpenSpec.ofChange swingSmallestSpec)

/-- ITS FALSE NEIGHBOUR: 'it returns false'. Refute it at one input. -/
def swingSmallestWrong : ChangeSpec := { name := "swingSmallest", fn := fun _ => fun
  | [d1, d2] => { results := [.lit (.bool false)], args := [d1, d2] }
  | _ => none }
def SwingSmallestWrongFalsely : Prop := swingSmallestRow.holds Try.pinned (OpenSpec.ofChange swingSmallestWrong)

/-- 'agoniclaw13.SwingClear': WHATEVER THE INPUT: true; the input reads as it did. -/
def swingClearSpec : ChangeSpec := { name := "swingClear", fn := fun _ => fun
  | [d1, d2] => { results := [.lit (.bool true)], args := [d1, d2] }
  | _ => none }
def swingClearRow : OpenClaim := { program := "ytjimphlkhjmaiaa", sum := "4007e15548de2af92262e7c94e416dfe30414f6937f34403e447f09bdeaacd8d", func := "agonic/agoniclaw13.SwingClear", spec := "swingClear", inPlace := ["internal/bytealg.IndexByteString", "internal/bytealg.IndexString", "internal/abi.NoEscape", "internal/bytealg.MakeNoZero"], unfollowed := true, recurses := true, named := ["internal/bytealg.MaxLen"], apart := false }
def SwingClearSaid : Prop := swingClearRow.holds Try.pinned (OpenSpec.ofChange swingClearSpec)

/-- ITS FALSE NEIGHBOUR: 'it returns false'. Refute it at one input. -/
def swingClearWrong : ChangeSpec := { name := "swingClear", fn := fun _ => fun
  | [d1, d2] => { results := [.lit (.bool false)], args := [d1, d2] }
  | _ => none }
def SwingClearWrongFalsely : Prop := swingClearRow.holds Try.pinned (OpenSpec.ofChange swingClearWrong)

/-- 'agoniclaw13.SwingRing': WHATEVER THE INPUT: true; the input reads as it did. -/
def swingRingSpec : ChangeSpec := { name := "swingRing", fn := fun _ => fun
  | [d1, d2] => { results := [.lit (.bool true)], args := [d1, d2] }
  | _ => none }
def swingRingRow : OpenClaim := { program := "ytjimphlkhjmaiaa", sum := "4007e15548de2af92262e7c94e416dfe30414f6937f34403e447f09bdeaacd8d", func := "agonic/agoniclaw13.SwingRing", spec := "swingRing", inPlace := ["internal/abi.NoEscape", "internal/bytealg.IndexByteString", "internal/bytealg.IndexString", "internal/bytealg.MakeNoZero"], unfollowed := true, recurses := true, named := ["internal/bytealg.MaxLen"], apart := false }
def SwingRingSaid : Prop := swingRingRow.holds Try.pinned (OpenSpec.ofChange swingRingSpec)

/-- ITS FALSE NEIGHBOUR: 'it returns false'. Refute it at one input. -/
def swingRingWrong : ChangeSpec := { name := "swingRing", fn := fun _ => fun
  | [d1, d2] => { results := [.lit (.bool false)], args := [d1, d2] }
  | _ => none }
def SwingRingWrongFalsely : Prop := swingRingRow.holds Try.pinned (OpenSpec.ofChange swingRingWrong)

/-- 'agoniclaw13.SwingBars': WHATEVER THE INPUT: true; the input reads as it did. -/
def swingBarsSpec : ChangeSpec := { name := "swingBars", fn := fun _ => fun
  | [d] => { results := [.lit (.bool true)], args := [d] }
  | _ => none }
def swingBarsRow : OpenClaim := { program := "ytjimphlkhjmaiaa", sum := "4007e15548de2af92262e7c94e416dfe30414f6937f34403e447f09bdeaacd8d", func := "agonic/agoniclaw13.SwingBars", spec := "swingBars", inPlace := ["internal/bytealg.IndexByteString", "internal/bytealg.IndexString", "internal/abi.NoEscape", "internal/bytealg.MakeNoZero"], unfollowed := true, recurses := true, named := ["internal/bytealg.MaxLen"], apart := false }
def SwingBarsSaid : Prop := swingBarsRow.holds Try.pinned (OpenSpec.ofChange swingBarsSpec)

/-- ITS FALSE NEIGHBOUR: 'it returns false'. Refute it at one input. -/
def swingBarsWrong : ChangeSpec := { name := "swingBars", fn := fun _ => fun
  | [d] => { results := [.lit (.bool false)], args := [d] }
  | _ => none }
def SwingBarsWrongFalsely : Prop := swingBarsRow.holds Try.pinned (OpenSpec.ofChange swingBarsWrong)

/-- 'agoniclaw13.SwingAlike': WHATEVER THE INPUT: true; the input reads as it did. -/
def swingAlikeSpec : ChangeSpec := { name := "swingAlike", fn := fun _ => fun
  | [d] => { results := [.lit (.bool true)], args := [d] }
  | _ => none }
def swingAlikeRow : OpenClaim := { program := "ytjimphlkhjmaiaa", sum := "4007e15548de2af92262e7c94e416dfe30414f6937f34403e447f09bdeaacd8d", func := "agonic/agoniclaw13.SwingAlike", spec := "swingAlike", inPlace := ["internal/bytealg.IndexByteString", "internal/bytealg.IndexString", "internal/abi.NoEscape", "internal/bytealg.MakeNoZero"], unfollowed := true, recurses := true, named := ["internal/bytealg.MaxLen"], apart := false }
def SwingAlikeSaid : Prop := swingAlikeRow.holds Try.pinned (OpenSpec.ofChange swingAlikeSpec)

/-- ITS FALSE NEIGHBOUR: 'it returns false'. Refute it at one input. -/
def swingAlikeWrong : ChangeSpec := { name := "swingAlike", fn := fun _ => fun
  | [d] => { results := [.lit (.bool false)], args := [d] }
  | _ => none }
def SwingAlikeWrongFalsely : Prop := swingAlikeRow.holds Try.pinned (OpenSpec.ofChange swingAlikeWrong)

/-- 'agoniclaw13.SwingSeen': WHATEVER THE INPUT: true; the input reads as it did. -/
def swingSeenSpec : ChangeSpec := { name := "swingSeen", fn := fun _ => fun
  | [d1, d2, d3, d4] => { results := [.lit (.bool true)], args := [d1, d2, d3, d4] }
  | _ => none }
def swingSeenRow : OpenClaim := { program := "ytjimphlkhjmaiaa", sum := "4007e15548de2af92262e7c94e416dfe30414f6937f34403e447f09bdeaacd8d", func := "agonic/agoniclaw13.SwingSeen", spec := "swingSeen", inPlace := ["internal/bytealg.IndexByteString", "internal/bytealg.IndexString", "internal/abi.NoEscape", "internal/bytealg.MakeNoZero"], unfollowed := true, recurses := true, named := ["internal/bytealg.MaxLen"], apart := false }
def SwingSeenSaid : Prop := swingSeenRow.holds Try.pinned (OpenSpec.ofChange swingSeenSpec)

/-- ITS FALSE NEIGHBOUR: 'it returns false'. Refute it at one input. -/
def swingSeenWrong : ChangeSpec := { name := "swingSeen", fn := fun _ => fun
  | [d1, d2, d3, d4] => { results := [.lit (.bool false)], args := [d1, d2, d3, d4] }
  | _ => none }
def SwingSeenWrongFalsely : Prop := swingSeenRow.holds Try.pinned (OpenSpec.ofChange swingSeenWrong)

/-- 'agoniclaw13.SwingKnown': WHATEVER THE INPUT: true; the input reads as it did. -/
def swingKnownSpec : ChangeSpec := { name := "swingKnown", fn := fun _ => fun
  | [] => { results := [.lit (.bool true)], args := [] }
  | _ => none }
def swingKnownRow : OpenClaim := { program := "ytjimphlkhjmaiaa", sum := "4007e15548de2af92262e7c94e416dfe30414f6937f34403e447f09bdeaacd8d", func := "agonic/agoniclaw13.SwingKnown", spec := "swingKnown", inPlace := ["internal/bytealg.IndexByteString", "internal/bytealg.IndexString", "internal/abi.NoEscape", "internal/bytealg.MakeNoZero"], unfollowed := true, recurses := true, named := ["internal/bytealg.MaxLen"], apart := false }
def SwingKnownSaid : Prop := swingKnownRow.holds Try.pinned (OpenSpec.ofChange swingKnownSpec)

/-- ITS FALSE NEIGHBOUR: 'it returns false'. Refute it at one input. -/
def swingKnownWrong : ChangeSpec := { name := "swingKnown", fn := fun _ => fun
  | [] => { results := [.lit (.bool false)], args := [] }
  | _ => none }
def SwingKnownWrongFalsely : Prop := swingKnownRow.holds Try.pinned (OpenSpec.ofChange swingKnownWrong)

/- THE SECOND FORM. 'bulk': how many values and letters a reading holds, each counted each time it is reached (what is shared counts as often as it is met; a slice's spare places count too). A statement '..UptoSaid' is the law's where the arguments, and the package variables that the reading takes, are together of bulk at most 1048576: NARROWER than '..Said'. Prove '..Said' where nothing that the law and all that it calls make is longer than what came in: it says more and counts as full. Else prove '..UptoSaid'. A law counts once. -/
mutual
def uptoBulk {H : Type} : DataW H → Nat
  | .lit (.string bytes) => bytes.length + 1
  | .lit _ => 1
  | .nil => 1
  | .ptr d => uptoBulk d + 1
  | .slice elems spare => uptoBulkAll elems + uptoBulkAll spare + 1
  | .agg parts => uptoBulkAll parts + 1
  | .iface _ d => uptoBulk d + 1
  | .map entries => uptoBulkEntries entries + 1
  | .held _ => 1
def uptoBulkAll {H : Type} : List (DataW H) → Nat
  | [] => 0
  | d :: r => uptoBulk d + uptoBulkAll r
def uptoBulkEntries {H : Type} : List (Lit × DataW H) → Nat
  | [] => 0
  | x :: r => uptoBulkEntry x + uptoBulkEntries r
def uptoBulkEntry {H : Type} : Lit × DataW H → Nat
  | (.string bytes, d) => bytes.length + uptoBulk d + 1
  | (_, d) => uptoBulk d + 1
 end
def uptoSmall : (H : Type) → List (DataW H) → Bool := fun _ ds => decide (uptoBulkAll ds ≤ 1048576)
def OpenSpec.upto (s : _root_.Go.ChangeSpec) : _root_.Go.OpenSpec := { _root_.Go.OpenSpec.ofChange s with cond := some uptoSmall }

/-- 'agoniclaw13.SwingRims', WHERE WHAT IT READS IS OF BULK AT MOST 1048576: true; the input reads as it did. -/
def swingRimsUptoRow : OpenClaim := { program := "ytjimphlkhjmaiaa", sum := "4007e15548de2af92262e7c94e416dfe30414f6937f34403e447f09bdeaacd8d", func := "agonic/agoniclaw13.SwingRims", spec := "swingRims", inPlace := ["internal/bytealg.IndexByteString", "internal/bytealg.IndexString", "internal/abi.NoEscape", "internal/bytealg.MakeNoZero"], unfollowed := true, recurses := true, named := ["internal/bytealg.MaxLen"], apart := false, narrowed := true }
def SwingRimsUptoSaid : Prop := swingRimsUptoRow.holds Try.pinned (OpenSpec.upto swingRimsSpec)

/-- 'agoniclaw13.SwingWheres', WHERE WHAT IT READS IS OF BULK AT MOST 1048576: true; the input reads as it did. -/
def swingWheresUptoRow : OpenClaim := { program := "ytjimphlkhjmaiaa", sum := "4007e15548de2af92262e7c94e416dfe30414f6937f34403e447f09bdeaacd8d", func := "agonic/agoniclaw13.SwingWheres", spec := "swingWheres", inPlace := ["internal/bytealg.IndexByteString", "internal/bytealg.IndexString", "internal/abi.NoEscape", "internal/bytealg.MakeNoZero"], unfollowed := true, recurses := true, named := ["internal/bytealg.MaxLen"], apart := false, narrowed := true }
def SwingWheresUptoSaid : Prop := swingWheresUptoRow.holds Try.pinned (OpenSpec.upto swingWheresSpec)

/-- 'agoniclaw13.SwingRings', WHERE WHAT IT READS IS OF BULK AT MOST 1048576: true; the input reads as it did. -/
def swingRingsUptoRow : OpenClaim := { program := "ytjimphlkhjmaiaa", sum := "4007e15548de2af92262e7c94e416dfe30414f6937f34403e447f09bdeaacd8d", func := "agonic/agoniclaw13.SwingRings", spec := "swingRings", inPlace := ["internal/abi.NoEscape", "internal/bytealg.IndexByteString", "internal/bytealg.IndexString", "internal/bytealg.MakeNoZero"], unfollowed := true, recurses := true, named := ["internal/bytealg.MaxLen"], apart := false, narrowed := true }
def SwingRingsUptoSaid : Prop := swingRingsUptoRow.holds Try.pinned (OpenSpec.upto swingRingsSpec)

/-- 'agoniclaw13.SwingFactors', WHERE WHAT IT READS IS OF BULK AT MOST 1048576: true; the input reads as it did. -/
def swingFactorsUptoRow : OpenClaim := { program := "ytjimphlkhjmaiaa", sum := "4007e15548de2af92262e7c94e416dfe30414f6937f34403e447f09bdeaacd8d", func := "agonic/agoniclaw13.SwingFactors", spec := "swingFactors", inPlace := ["internal/bytealg.IndexByteString", "internal/bytealg.IndexString", "internal/abi.NoEscape", "internal/bytealg.MakeNoZero"], unfollowed := true, recurses := true, named := ["internal/bytealg.MaxLen"], apart := false, narrowed := true }
def SwingFactorsUptoSaid : Prop := swingFactorsUptoRow.holds Try.pinned (OpenSpec.upto swingFactorsSpec)

/-- 'agoniclaw13.SwingSmallest', WHERE WHAT IT READS IS OF BULK AT MOST 1048576: true; the input reads as it did. -/
def swingSmallestUptoRow : OpenClaim := { program := "ytjimphlkhjmaiaa", sum := "4007e15548de2af92262e7c94e416dfe30414f6937f34403e447f09bdeaacd8d", func := "agonic/agoniclaw13.SwingSmallest", spec := "swingSmallest", inPlace := ["internal/bytealg.IndexByteString", "internal/bytealg.IndexString", "internal/abi.NoEscape", "internal/bytealg.MakeNoZero"], unfollowed := true, recurses := true, named := ["internal/bytealg.MaxLen"], apart := false, narrowed := true }
def SwingSmallestUptoSaid : Prop := swingSmallestUptoRow.holds Try.pinned (OpenSpec.upto swingSmallestSpec)

/-- 'agoniclaw13.SwingClear', WHERE WHAT IT READS IS OF BULK AT MOST 1048576: true; the input reads as it did. -/
def swingClearUptoRow : OpenClaim := { program := "ytjimphlkhjmaiaa", sum := "4007e15548de2af92262e7c94e416dfe30414f6937f34403e447f09bdeaacd8d", func := "agonic/agoniclaw13.SwingClear", spec := "swingClear", inPlace := ["internal/bytealg.IndexByteString", "internal/bytealg.IndexString", "internal/abi.NoEscape", "internal/bytealg.MakeNoZero"], unfollowed := true, recurses := true, named := ["internal/bytealg.MaxLen"], apart := false, narrowed := true }
def SwingClearUptoSaid : Prop := swingClearUptoRow.holds Try.pinned (OpenSpec.upto swingClearSpec)

/-- 'agoniclaw13.SwingRing', WHERE WHAT IT READS IS OF BULK AT MOST 1048576: true; the input reads as it did. -/
def swingRingUptoRow : OpenClaim := { program := "ytjimphlkhjmaiaa", sum := "4007e15548de2af92262e7c94e416dfe30414f6937f34403e447f09bdeaacd8d", func := "agonic/agoniclaw13.SwingRing", spec := "swingRing", inPlace := ["internal/abi.NoEscape", "internal/bytealg.IndexByteString", "internal/bytealg.IndexString", "internal/bytealg.MakeNoZero"], unfollowed := true, recurses := true, named := ["internal/bytealg.MaxLen"], apart := false, narrowed := true }
def SwingRingUptoSaid : Prop := swingRingUptoRow.holds Try.pinned (OpenSpec.upto swingRingSpec)

/-- 'agoniclaw13.SwingBars', WHERE WHAT IT READS IS OF BULK AT MOST 1048576: true; the input reads as it did. -/
def swingBarsUptoRow : OpenClaim := { program := "ytjimphlkhjmaiaa", sum := "4007e15548de2af92262e7c94e416dfe30414f6937f34403e447f09bdeaacd8d", func := "agonic/agoniclaw13.SwingBars", spec := "swingBars", inPlace := ["internal/bytealg.IndexByteString", "internal/bytealg.IndexString", "internal/abi.NoEscape", "internal/bytealg.MakeNoZero"], unfollowed := true, recurses := true, named := ["internal/bytealg.MaxLen"], apart := false, narrowed := true }
def SwingBarsUptoSaid : Prop := swingBarsUptoRow.holds Try.pinned (OpenSpec.upto swingBarsSpec)

/-- 'agoniclaw13.SwingAlike', WHERE WHAT IT READS IS OF BULK AT MOST 1048576: true; the input reads as it did. -/
def swingAlikeUptoRow : OpenClaim := { program := "ytjimphlkhjmaiaa", sum := "4007e15548de2af92262e7c94e416dfe30414f6937f34403e447f09bdeaacd8d", func := "agonic/agoniclaw13.SwingAlike", spec := "swingAlike", inPlace := ["internal/bytealg.IndexByteString", "internal/bytealg.IndexString", "internal/abi.NoEscape", "internal/bytealg.MakeNoZero"], unfollowed := true, recurses := true, named := ["internal/bytealg.MaxLen"], apart := false, narrowed := true }
def SwingAlikeUptoSaid : Prop := swingAlikeUptoRow.holds Try.pinned (OpenSpec.upto swingAlikeSpec)

/-- 'agoniclaw13.SwingSeen', WHERE WHAT IT READS IS OF BULK AT MOST 1048576: true; the input reads as it did. -/
def swingSeenUptoRow : OpenClaim := { program := "ytjimphlkhjmaiaa", sum := "4007e15548de2af92262e7c94e416dfe30414f6937f34403e447f09bdeaacd8d", func := "agonic/agoniclaw13.SwingSeen", spec := "swingSeen", inPlace := ["internal/bytealg.IndexByteString", "internal/bytealg.IndexString", "internal/abi.NoEscape", "internal/bytealg.MakeNoZero"], unfollowed := true, recurses := true, named := ["internal/bytealg.MaxLen"], apart := false, narrowed := true }
def SwingSeenUptoSaid : Prop := swingSeenUptoRow.holds Try.pinned (OpenSpec.upto swingSeenSpec)

/-- 'agoniclaw13.SwingKnown', WHERE WHAT IT READS IS OF BULK AT MOST 1048576: true; the input reads as it did. -/
def swingKnownUptoRow : OpenClaim := { program := "ytjimphlkhjmaiaa", sum := "4007e15548de2af92262e7c94e416dfe30414f6937f34403e447f09bdeaacd8d", func := "agonic/agoniclaw13.SwingKnown", spec := "swingKnown", inPlace := ["internal/bytealg.IndexByteString", "internal/bytealg.IndexString", "internal/abi.NoEscape", "internal/bytealg.MakeNoZero"], unfollowed := true, recurses := true, named := ["internal/bytealg.MaxLen"], apart := false, narrowed := true }
def SwingKnownUptoSaid : Prop := swingKnownUptoRow.holds Try.pinned (OpenSpec.upto swingKnownSpec)

end Rows
end Go.Proofs.Ytjimphlkhjmaiaa
