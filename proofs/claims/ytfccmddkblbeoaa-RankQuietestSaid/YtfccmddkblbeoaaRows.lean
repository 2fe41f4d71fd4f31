/-
  No cell of these rows narrows 'for every input' (looked for: loops, veiled, ifaces, maps, wideKeys, modest, calm, conditions, laid).
  DERIVED. THE GIVEN ROWS OF THIS SEAT. 11 by the template 'for every input the law returns true; each argument reads behind the call as it read before'; 0 by the template 'total and deterministic' (their statements: YtfccmddkblbeoaaTotals.lean).
  GIVEN WITH THE SEED: the statements are not yours to turn. If you find one false, say at which input.
  Laid BY PROGRAM, IN A SANDBOX (cutbox-rows.mjs): the forced cells as the released guide's own fill.sh prints them over the translation 823525a7d160ee84… (all of the seat's roots in one cut). By AI agents, Wed Nov 11 2026. No macro, syntax, notation, axiom, sorry.
-/
import Derived.Test.YtfccmddkblbeoaaChecked
import GoSem.Claim
import GoSem.ClaimJoined
import GoSem.ClaimMapViews
import Derived.JoinedTies
import Derived.KernelRfl
namespace Go.Proofs.Ytfccmddkblbeoaa
/- THE CELL 'sum', in the pinned program and in every row, IS THE sha256 OF THE DUMP (.gsa) THAT YtfccmddkblbeoaaProg.lean LOADS. Nothing in Lean hashes anything: it is a label: what it is worth is what the hold of that sum in a sandbox is worth. -/
noncomputable def Try.pinned : Pinned := { name := "ytfccmddkblbeoaa", sum := "823525a7d160ee84d5f07368d6014d5dbbc3d684d1f85e842b9e43847edc74ec", checked := Try.checked }
namespace Rows
def none {H : Type} : Left H := { results := [], args := [] }

/-- 'agoniclaw12.RankQuiet': WHATEVER THE INPUT: true; the input reads as it did. -/
def rankQuietSpec : ChangeSpec := { name := "rankQuiet", fn := fun _ => fun
  | [d1, d2] => { results := [.lit (.bool true)], args := [d1, d2] }
  | _ => none }
def rankQuietRow : OpenClaim := { program := "ytfccmddkblbeoaa", sum := "823525a7d160ee84d5f07368d6014d5dbbc3d684d1f85e842b9e43847edc74ec", func := "agonic/agoniclaw12.RankQuiet", spec := "rankQuiet", unfollowed := true, recurses := true, apart := false }
def RankQuietSaid : Prop := rankQuietRow.holds Try.pinned (OpenSpec.ofChange rankQuietSpec)

/-- ITS FALSE NEIGHBOUR: 'it returns false'. Refute it at one input. -/
def rankQuietWrong : ChangeSpec := { name := "rankQuiet", fn := fun _ => fun
  | [d1, d2] => { results := [.lit (.bool false)], args := [d1, d2] }
  | _ => none }
def RankQuietWrongFalsely : Prop := rankQuietRow.holds Try.pinned (OpenSpec.ofChange rankQuietWrong)

/-- 'agoniclaw12.RankNumbers': WHATEVER THE INPUT: true; the input reads as it did. -/
def rankNumbersSpec : ChangeSpec := { name := "rankNumbers", fn := fun _ => fun
  | [d1, d2, d3] => { results := [.lit (.bool true)], args := [d1, d2, d3] }
  | _ => none }
def rankNumbersRow : OpenClaim := { program := "ytfccmddkblbeoaa", sum := "823525a7d160ee84d5f07368d6014d5dbbc3d684d1f85e842b9e43847edc74ec", func := "agonic/agoniclaw12.RankNumbers", spec := "rankNumbers", unfollowed := true, recurses := true, apart := false }
def RankNumbersSaid : Prop := rankNumbersRow.holds Try.pinned (OpenSpec.ofChange rankNumbersSpec)

/-- ITS FALSE NEIGHBOUR: 'it returns false'. Refute it at one input. -/
def rankNumbersWrong : ChangeSpec := { name := "rankNumbers", fn := fun _ => fun
  | [d1, d2, d3] => { results := [.lit (.bool false)], args := [d1, d2, d3] }
  | _ => none }
def RankNumbersWrongFalsely : Prop := rankNumbersRow.holds Try.pinned (OpenSpec.ofChange rankNumbersWrong)

/-- 'agoniclaw12.RankChances': WHATEVER THE INPUT: true; the input reads as it did. -/
def rankChancesSpec : ChangeSpec := { name := "rankChances", fn := fun _ => fun
  | [d1, d2, d3, d4] => { results := [.lit (.bool true)], args := [d1, d2, d3, d4] }
  | _ => none }
def rankChancesRow : OpenClaim := { program := "ytfccmddkblbeoaa", sum := "823525a7d160ee84d5f07368d6014d5dbbc3d684d1f85e842b9e43847edc74ec", func := "agonic/agoniclaw12.RankChances", spec := "rankChances", unfollowed := true, recurses := true, apart := false }
def RankChancesSaid : Prop := rankChancesRow.holds Try.pinned (OpenSpec.ofChange rankChancesSpec)

/-- ITS FALSE NEIGHBOUR: 'it returns false'. Refute it at one input. -/
def rankChancesWrong : ChangeSpec := { name := "rankChances", fn := fun _ => fun
  | [d1, d2, d3, d4] => { results := [.lit (.bool false)], args := [d1, d2, d3, d4] }
  | _ => none }
def RankChancesWrongFalsely : Prop := rankChancesRow.holds Try.pinned (OpenSpec.ofChange rankChancesWrong)

/-- 'agoniclaw12.RankAll': WHATEVER THE INPUT: true; the input reads as it did. -/
def rankAllSpec : ChangeSpec := { name := "rankAll", fn := fun _ => fun
  | [d] => { results := [.lit (.bool true)], args := [d] }
  | _ => none }
def rankAllRow : OpenClaim := { program := "ytfccmddkblbeoaa", sum := "823525a7d160ee84d5f07368d6014d5dbbc3d684d1f85e842b9e43847edc74ec", func := "agonic/agoniclaw12.RankAll", spec := "rankAll", unfollowed := true, recurses := true, apart := false }
def RankAllSaid : Prop := rankAllRow.holds Try.pinned (OpenSpec.ofChange rankAllSpec)

/-- ITS FALSE NEIGHBOUR: 'it returns false'. Refute it at one input. -/
def rankAllWrong : ChangeSpec := { name := "rankAll", fn := fun _ => fun
  | [d] => { results := [.lit (.bool false)], args := [d] }
  | _ => none }
def RankAllWrongFalsely : Prop := rankAllRow.holds Try.pinned (OpenSpec.ofChange rankAllWrong)

/-- 'agoniclaw12.RankTrue': WHATEVER THE INPUT: true; the input reads as it did. -/
def rankTrueSpec : ChangeSpec := { name := "rankTrue", fn := fun _ => fun
  | [d1, d2, d3] => { results := [.lit (.bool true)], args := [d1, d2, d3] }
  | _ => none }
def rankTrueRow : OpenClaim := { program := "ytfccmddkblbeoaa", sum := "823525a7d160ee84d5f07368d6014d5dbbc3d684d1f85e842b9e43847edc74ec", func := "agonic/agoniclaw12.RankTrue", spec := "rankTrue", unfollowed := true, recurses := true, apart := false }
def RankTrueSaid : Prop := rankTrueRow.holds Try.pinned (OpenSpec.ofChange rankTrueSpec)

/-- ITS FALSE NEIGHBOUR: 'it returns false'. Refute it at one input. -/
def rankTrueWrong : ChangeSpec := { name := "rankTrue", fn := fun _ => fun
  | [d1, d2, d3] => { results := [.lit (.bool false)], args := [d1, d2, d3] }
  | _ => none }
def RankTrueWrongFalsely : Prop := rankTrueRow.holds Try.pinned (OpenSpec.ofChange rankTrueWrong)

/-- 'agoniclaw12.RankQuietest': WHATEVER THE INPUT: true; the input reads as it did. -/
def rankQuietestSpec : ChangeSpec := { name := "rankQuietest", fn := fun _ => fun
  | [d1, d2] => { results := [.lit (.bool true)], args := [d1, d2] }
  | _ => none }
def rankQuietestRow : OpenClaim := { program := "ytfccmddkblbeoaa", sum := "823525a7d160ee84d5f07368d6014d5dbbc3d684d1f85e842b9e43847edc74ec", func := "agonic/agoniclaw12.RankQuietest", spec := "rankQuietest", unfollowed := true, recurses := true, apart := false }
def RankQuietestSaid : Prop := rankQuietestRow.holds Try.pinned (OpenSpec.ofChange rankQuietestSpec)

/-- ITS FALSE NEIGHBOUR: 'it returns false'. Refute it at one input. -/
def rankQuietestWrong : ChangeSpec := { name := "rankQuietest", fn := fun _ => fun
  | [d1, d2] => { results := [.lit (.bool false)], args := [d1, d2] }
  | _ => none }
def RankQuietestWrongFalsely : Prop := rankQuietestRow.holds Try.pinned (OpenSpec.ofChange rankQuietestWrong)

/-- 'agoniclaw12.RankChance': WHATEVER THE INPUT: true; the input reads as it did. -/
def rankChanceSpec : ChangeSpec := { name := "rankChance", fn := fun _ => fun
  | [d1, d2] => { results := [.lit (.bool true)], args := [d1, d2] }
  | _ => none }
def rankChanceRow : OpenClaim := { program := "ytfccmddkblbeoaa", sum := "823525a7d160ee84d5f07368d6014d5dbbc3d684d1f85e842b9e43847edc74ec", func := "agonic/agoniclaw12.RankChance", spec := "rankChance", unfollowed := true, recurses := true, apart := false }
def RankChanceSaid : Prop := rankChanceRow.holds Try.pinned (OpenSpec.ofChange rankChanceSpec)

/-- ITS FALSE NEIGHBOUR: 'it returns false'. Refute it at one input. -/
def rankChanceWrong : ChangeSpec := { name := "rankChance", fn := fun _ => fun
  | [d1, d2] => { results := [.lit (.bool false)], args := [d1, d2] }
  | _ => none }
def RankChanceWrongFalsely : Prop := rankChanceRow.holds Try.pinned (OpenSpec.ofChange rankChanceWrong)

/-- 'agoniclaw12.RankMore': WHATEVER THE INPUT: true; the input reads as it did. -/
def rankMoreSpec : ChangeSpec := { name := "rankMore", fn := fun _ => fun
  | [d1, d2, d3, d4] => { results := [.lit (.bool true)], args := [d1, d2, d3, d4] }
  | _ => none }
def rankMoreRow : OpenClaim := { program := "ytfccmddkblbeoaa", sum := "823525a7d160ee84d5f07368d6014d5dbbc3d684d1f85e842b9e43847edc74ec", func := "agonic/agoniclaw12.RankMore", spec := "rankMore", unfollowed := true, recurses := true, apart := false }
def RankMoreSaid : Prop := rankMoreRow.holds Try.pinned (OpenSpec.ofChange rankMoreSpec)

/-- ITS FALSE NEIGHBOUR: 'it returns false'. Refute it at one input. -/
def rankMoreWrong : ChangeSpec := { name := "rankMore", fn := fun _ => fun
  | [d1, d2, d3, d4] => { results := [.lit (.bool false)], args := [d1, d2, d3, d4] }
  | _ => none }
def RankMoreWrongFalsely : Prop := rankMoreRow.holds Try.pinned (OpenSpec.ofChange rankMoreWrong)

/-- 'agoniclaw12.RankKnown': WHATEVER THE INPUT: true; the input reads as it did. -/
def rankKnownSpec : ChangeSpec := { name := "rankKnown", fn := fun _ => fun
  | [] => { results := [.lit (.bool true)], args := [] }
  | _ => none }
def rankKnownRow : OpenClaim := { program := "ytfccmddkblbeoaa", sum := "823525a7d160ee84d5f07368d6014d5dbbc3d684d1f85e842b9e43847edc74ec", func := "agonic/agoniclaw12.RankKnown", spec := "rankKnown", unfollowed := true, recurses := true, apart := false }
def RankKnownSaid : Prop := rankKnownRow.holds Try.pinned (OpenSpec.ofChange rankKnownSpec)

/-- ITS FALSE NEIGHBOUR: 'it returns false'. Refute it at one input. -/
def rankKnownWrong : ChangeSpec := { name := "rankKnown", fn := fun _ => fun
  | [] => { results := [.lit (.bool false)], args := [] }
  | _ => none }
def RankKnownWrongFalsely : Prop := rankKnownRow.holds Try.pinned (OpenSpec.ofChange rankKnownWrong)

/-- 'agoniclaw12.RankOrders': WHATEVER THE INPUT: true; the input reads as it did. -/
def rankOrdersSpec : ChangeSpec := { name := "rankOrders", fn := fun _ => fun
  | [d1, d2, d3, d4] => { results := [.lit (.bool true)], args := [d1, d2, d3, d4] }
  | _ => none }
def rankOrdersRow : OpenClaim := { program := "ytfccmddkblbeoaa", sum := "823525a7d160ee84d5f07368d6014d5dbbc3d684d1f85e842b9e43847edc74ec", func := "agonic/agoniclaw12.RankOrders", spec := "rankOrders", unfollowed := true, recurses := true, apart := false }
def RankOrdersSaid : Prop := rankOrdersRow.holds Try.pinned (OpenSpec.ofChange rankOrdersSpec)

/-- ITS FALSE NEIGHBOUR: 'it returns false'. Refute it at one input. -/
def rankOrdersWrong : ChangeSpec := { name := "rankOrders", fn := fun _ => fun
  | [d1, d2, d3, d4] => { results := [.lit (.bool false)], args := [d1, d2, d3, d4] }
  | _ => none }
def RankOrdersWrongFalsely : Prop := rankOrdersRow.holds Try.pinned (OpenSpec.ofChange rankOrdersWrong)

/-- 'agoniclaw12.RankFaulty': WHATEVER THE INPUT: true; the input reads as it did. -/
def rankFaultySpec : ChangeSpec := { name := "rankFaulty", fn := fun _ => fun
  | [d1, d2, d3] => { results := [.lit (.bool true)], args := [d1, d2, d3] }
  | _ => none }
def rankFaultyRow : OpenClaim := { program := "ytfccmddkblbeoaa", sum := "823525a7d160ee84d5f07368d6014d5dbbc3d684d1f85e842b9e43847edc74ec", func := "agonic/agoniclaw12.RankFaulty", spec := "rankFaulty", unfollowed := true, recurses := true, apart := false }
def RankFaultySaid : Prop := rankFaultyRow.holds Try.pinned (OpenSpec.ofChange rankFaultySpec)

/-- ITS FALSE NEIGHBOUR: 'it returns false'. Refute it at one input. -/
def rankFaultyWrong : ChangeSpec := { name := "rankFaulty", fn := fun _ => fun
  | [d1, d2, d3] => { results := [.lit (.bool false)], args := [d1, d2, d3] }
  | _ => none }
def RankFaultyWrongFalsely : Prop := rankFaultyRow.holds Try.pinned (OpenSpec.ofChange rankFaultyWrong)

/- THE SECOND FORM. 'bulk': how many values and letters a reading holds, each counted each time it is reached (what is shared counts as often as it is met; a slice's spare places count too). A statement '..UptoSaid' is the law's where the arguments, and the package variables that the reading takes, are together of bulk at most 1048576: NARROWER than '..Said'. Prove '..Said' where nothing that the law and all that it calls make is longer than what came in: it says more and counts as full. Else prove '..UptoSaid'. A law counts once. -/
mutual
def uptoBulk {H : Type} : DataW H → Nat
  | .lit (.string bytes) => bytes.length + 1
  | .lit _ => 1
  | .nil => 1
  | .ptr d => uptoBulk d + 1
  | .slice elems spare => uptoBulkAll elems + uptoBulkAll spare + 1
  | .agg parts => uptoBulkAll parts + 1
  | .iface _ d => uptoBulk d + 1
  | .map entries => uptoBulkEntries entries + 1
  | .held _ => 1
def uptoBulkAll {H : Type} : List (DataW H) → Nat
  | [] => 0
  | d :: r => uptoBulk d + uptoBulkAll r
def uptoBulkEntries {H : Type} : List (Lit × DataW H) → Nat
  | [] => 0
  | x :: r => uptoBulkEntry x + uptoBulkEntries r
def uptoBulkEntry {H : Type} : Lit × DataW H → Nat
  | (.string bytes, d) => bytes.length + uptoBulk d + 1
  | (_, d) => uptoBulk d + 1
 end
def uptoSmall : (H : Type) → List (DataW H) → Bool := fun _ ds => decide (uptoBulkAll ds ≤ 1048576)
def OpenSpec.upto (s : _root_.Go.ChangeSpec) : _root_.Go.OpenSpec := { _root_.Go.OpenSpec.ofChange s with cond := some uptoSmall }

/-- 'agoniclaw12.RankQuiet', WHERE WHAT IT READS IS OF BULK AT MOST 1048576: true; the input reads as it did. -/
def rankQuietUptoRow : OpenClaim := { program := "ytfccmddkblbeoaa", sum := "823525a7d160ee84d5f07368d6014d5dbbc3d684d1f85e842b9e43847edc74ec", func := "agonic/agoniclaw12.RankQuiet", spec := "rankQuiet", unfollowed := true, recurses := true, apart := false, narrowed := true }
def RankQuietUptoSaid : Prop := rankQuietUptoRow.holds Try.pinned (OpenSpec.upto rankQuietSpec)

/-- 'agoniclaw12.RankNumbers', WHERE WHAT IT READS IS OF BULK AT MOST 1048576: true; the input reads as it did. -/
def rankNumbersUptoRow : OpenClaim := { program := "ytfccmddkblbeoaa", sum := "823525a7d160ee84d5f07368d6014d5dbbc3d684d1f85e842b9e43847edc74ec", func := "agonic/agoniclaw12.RankNumbers", spec := "rankNumbers", unfollowed := true, recurses := true, apart := false, narrowed := true }
def RankNumbersUptoSaid : Prop := rankNumbersUptoRow.holds Try.pinned (OpenSpec.upto rankNumbersSpec)

/-- 'agoniclaw12.RankChances', WHERE WHAT IT READS IS OF BULK AT MOST 1048576: true; the input reads as it did. -/
def rankChancesUptoRow : OpenClaim := { program := "ytfccmddkblbeoaa", sum := "823525a7d160ee84d5f07368d6014d5dbbc3d684d1f85e842b9e43847edc74ec", func := "agonic/agoniclaw12.RankChances", spec := "rankChances", unfollowed := true, recurses := true, apart := false, narrowed := true }
def RankChancesUptoSaid : Prop := rankChancesUptoRow.holds Try.pinned (OpenSpec.upto rankChancesSpec)

/-- 'agoniclaw12.RankAll', WHERE WHAT IT READS IS OF BULK AT MOST 1048576: true; the input reads as it did. -/
def rankAllUptoRow : OpenClaim := { program := "ytfccmddkblbeoaa", sum := "823525a7d160ee84d5f07368d6014d5dbbc3d684d1f85e842b9e43847edc74ec", func := "agonic/agoniclaw12.RankAll", spec := "rankAll", unfollowed := true, recurses := true, apart := false, narrowed := true }
def RankAllUptoSaid : Prop := rankAllUptoRow.holds Try.pinned (OpenSpec.upto rankAllSpec)

/-- 'agoniclaw12.RankTrue', WHERE WHAT IT READS IS OF BULK AT MOST 1048576: true; the input reads as it did. -/
def rankTrueUptoRow : OpenClaim := { program := "ytfccmddkblbeoaa", sum := "823525a7d160ee84d5f07368d6014d5dbbc3d684d1f85e842b9e43847edc74ec", func := "agonic/agoniclaw12.RankTrue", spec := "rankTrue", unfollowed := true, recurses := true, apart := false, narrowed := true }
def RankTrueUptoSaid : Prop := rankTrueUptoRow.holds Try.pinned (OpenSpec.upto rankTrueSpec)

/-- 'agoniclaw12.RankQuietest', WHERE WHAT IT READS IS OF BULK AT MOST 1048576: true; the input reads as it did. -/
def rankQuietestUptoRow : OpenClaim := { program := "ytfccmddkblbeoaa", sum := "823525a7d160ee84d5f07368d6014d5dbbc3d684d1f85e842b9e43847edc74ec", func := "agonic/agoniclaw12.RankQuietest", spec := "rankQuietest", unfollowed := true, recurses := true, apart := false, narrowed := true }
def RankQuietestUptoSaid : Prop := rankQuietestUptoRow.holds Try.pinned (OpenSpec.upto rankQuietestSpec)

/-- 'agoniclaw12.RankChance', WHERE WHAT IT READS IS OF BULK AT MOST 1048576: true; the input reads as it did. -/
def rankChanceUptoRow : OpenClaim := { program := "ytfccmddkblbeoaa", sum := "823525a7d160ee84d5f07368d6014d5dbbc3d684d1f85e842b9e43847edc74ec", func := "agonic/agoniclaw12.RankChance", spec := "rankChance", unfollowed := true, recurses := true, apart := false, narrowed := true }
def RankChanceUptoSaid : Prop := rankChanceUptoRow.holds Try.pinned (OpenSpec.upto rankChanceSpec)

/-- 'agoniclaw12.RankMore', WHERE WHAT IT READS IS OF BULK AT MOST 1048576: true; the input reads as it did. -/
def rankMoreUptoRow : OpenClaim := { program := "ytfccmddkblbeoaa", sum := "823525a7d160ee84d5f07368d6014d5dbbc3d684d1f85e842b9e43847edc74ec", func := "agonic/agoniclaw12.RankMore", spec := "rankMore", unfollowed := true, recurses := true, apart := false, narrowed := true }
def RankMoreUptoSaid : Prop := rankMoreUptoRow.holds Try.pinned (OpenSpec.upto rankMoreSpec)

/-- 'agoniclaw12.RankKnown', WHERE WHAT IT READS IS OF BULK AT MOST 1048576: true; the input reads as it did. -/
def rankKnownUptoRow : OpenClaim := { program := "ytfccmddkblbeoaa", sum := "823525a7d160ee84d5f07368d6014d5dbbc3d684d1f85e842b9e43847edc74ec", func := "agonic/agoniclaw12.RankKnown", spec := "rankKnown", unfollowed := true, recurses := true, apart := false, narrowed := true }
def RankKnownUptoSaid : Prop := rankKnownUptoRow.holds Try.pinned (OpenSpec.upto rankKnownSpec)

/-- 'agoniclaw12.RankOrders', WHERE WHAT IT READS IS OF BULK AT MOST 1048576: true; the input reads as it did. -/
def rankOrdersUptoRow : OpenClaim := { program := "ytfccmddkblbeoaa", sum := "823525a7d160ee84d5f07368d6014d5dbbc3d684d1f85e842b9e43847edc74ec", func := "agonic/agoniclaw12.RankOrders", spec := "rankOrders", unfollowed := true, recurses := true, apart := false, narrowed := true }
def RankOrdersUptoSaid : Prop := rankOrdersUptoRow.holds Try.pinned (OpenSpec.upto rankOrdersSpec)

/-- 'agoniclaw12.RankFaulty', WHERE WHAT IT READS IS OF BULK AT MOST 1048576: true; the input reads as it did. -/
def rankFaultyUptoRow : OpenClaim := { program := "ytfccmddkblbeoaa", sum := "823525a7d160ee84d5f07368d6014d5dbbc3d684d1f85e842b9e43847edc74ec", func := "agonic/agoniclaw12.RankFaulty", spec := "rankFaulty", unfollowed := true, recurses := true, apart := false, narrowed := true }
def RankFaultyUptoSaid : Prop := rankFaultyUptoRow.holds Try.pinned (OpenSpec.upto rankFaultySpec)

end Rows
end Go.Proofs.Ytfccmddkblbeoaa
