/-
  No cell of these rows narrows 'for every input' (looked for: loops, veiled, ifaces, maps, wideKeys, modest, calm, conditions, laid).
  DERIVED. THE GIVEN ROWS OF THIS SEAT. 8 by the template 'for every input the law returns true; each argument reads behind the call as it read before'; 0 by the template 'total and deterministic' (their statements: YtbomfcghpajaiaaTotals.lean).
  GIVEN WITH THE SEED: the statements are not yours to turn. If you find one false, say at which input.
  Laid BY PROGRAM, IN A SANDBOX (cutbox-rows.mjs): the forced cells as the released guide's own fill.sh prints them over the translation b696a8fe2a3abb3d… (all of the seat's roots in one cut). By AI agents, Wed Nov 11 2026. No macro, syntax, notation, axiom, sorry.
-/
import Derived.Test.YtbomfcghpajaiaaChecked
import GoSem.Claim
import GoSem.ClaimJoined
import GoSem.ClaimMapViews
import Derived.JoinedTies
import Derived.KernelRfl
namespace Go.Proofs.Ytbomfcghpajaiaa
/- THE CELL 'sum', in the pinned program and in every row, IS THE sha256 OF THE DUMP (.gsa) THAT YtbomfcghpajaiaaProg.lean LOADS. Nothing in Lean hashes anything: it is a label: what it is worth is what the hold of that sum in a sandbox is worth. -/
noncomputable def Try.pinned : Pinned := { name := "ytbomfcghpajaiaa", sum := "b696a8fe2a3abb3dbe50a163ae72f66c065ab65e631401d967c7131868d9f3c9", checked := Try.checked }
namespace Rows
def none {H : Type} : Left H := { results := [], args := [] }

/-- 'wormtublaw12.BottleStamps': WHATEVER THE INPUT: true; the input reads as it did. -/
def bottleStampsSpec : ChangeSpec := { name := "bottleStamps", fn := fun _ => fun
  | [d1, d2] => { results := [.lit (.bool true)], args := [d1, d2] }
  | _ => none }
def bottleStampsRow : OpenClaim := { program := "ytbomfcghpajaiaa", sum := "b696a8fe2a3abb3dbe50a163ae72f66c065ab65e631401d967c7131868d9f3c9", func := "wormtub/wormtublaw12.BottleStamps", spec := "bottleStamps", unfollowed := true, recurses := true, apart := false }
def BottleStampsSaid : Prop := bottleStampsRow.holds Try.pinned (OpenSpec.ofChange bottleStampsSpec)

/-- ITS FALSE NEIGHBOUR: 'it returns false'. Refute it at one input. -/
def bottleStampsWrong : ChangeSpec := { name := "bottleStamps", fn := fun _ => fun
  | [d1, d2] => { results := [.lit (.bool false)], args := [d1, d2] }
  | _ => none }
def BottleStampsWrongFalsely : Prop := bottleStampsRow.holds Try.pinned (OpenSpec.ofChange bottleStampsWrong)

/-- 'wormtublaw12.BottleDrops': WHATEVER THE INPUT: true; the input reads as it did. -/
def bottleDropsSpec : ChangeSpec := { name := "bottleDrops", fn := fun _ => fun
  | [d1, d2] => { results := [.lit (.bool true)], args := [d1, d2] }
  | _ => none }
def bottleDropsRow : OpenClaim := { program := "ytbomfcghpajaiaa", sum := "b696a8fe2a3abb3dbe50a163ae72f66c065ab65e631401d967c7131868d9f3c9", func := "wormtub/wormtublaw12.BottleDrops", spec := "bottleDrops", unfollowed := true, recurses := true, apart := false }
def BottleDropsSaid : Prop := bottleDropsRow.holds Try.pinned (OpenSpec.ofChange bottleDropsSpec)

/-- ITS FALSE NEIGHBOUR: 'it returns false'. Refute it at one input. -/
def bottleDropsWrong : ChangeSpec := { name := "bottleDrops", fn := fun _ => fun
  | [d1, d2] => { results := [.lit (.bool false)], args := [d1, d2] }
  | _ => none }
def BottleDropsWrongFalsely : Prop := bottleDropsRow.holds Try.pinned (OpenSpec.ofChange bottleDropsWrong)

/-- 'wormtublaw12.BottleTrue': WHATEVER THE INPUT: true; the input reads as it did. -/
def bottleTrueSpec : ChangeSpec := { name := "bottleTrue", fn := fun _ => fun
  | [d1, d2, d3, d4, d5, d6] => { results := [.lit (.bool true)], args := [d1, d2, d3, d4, d5, d6] }
  | _ => none }
def bottleTrueRow : OpenClaim := { program := "ytbomfcghpajaiaa", sum := "b696a8fe2a3abb3dbe50a163ae72f66c065ab65e631401d967c7131868d9f3c9", func := "wormtub/wormtublaw12.BottleTrue", spec := "bottleTrue", unfollowed := true, recurses := true, apart := false }
def BottleTrueSaid : Prop := bottleTrueRow.holds Try.pinned (OpenSpec.ofChange bottleTrueSpec)

/-- ITS FALSE NEIGHBOUR: 'it returns false'. Refute it at one input. -/
def bottleTrueWrong : ChangeSpec := { name := "bottleTrue", fn := fun _ => fun
  | [d1, d2, d3, d4, d5, d6] => { results := [.lit (.bool false)], args := [d1, d2, d3, d4, d5, d6] }
  | _ => none }
def BottleTrueWrongFalsely : Prop := bottleTrueRow.holds Try.pinned (OpenSpec.ofChange bottleTrueWrong)

/-- 'wormtublaw12.BottleWater': WHATEVER THE INPUT: true; the input reads as it did. -/
def bottleWaterSpec : ChangeSpec := { name := "bottleWater", fn := fun _ => fun
  | [d1, d2, d3, d4] => { results := [.lit (.bool true)], args := [d1, d2, d3, d4] }
  | _ => none }
def bottleWaterRow : OpenClaim := { program := "ytbomfcghpajaiaa", sum := "b696a8fe2a3abb3dbe50a163ae72f66c065ab65e631401d967c7131868d9f3c9", func := "wormtub/wormtublaw12.BottleWater", spec := "bottleWater", unfollowed := true, recurses := true, apart := false }
def BottleWaterSaid : Prop := bottleWaterRow.holds Try.pinned (OpenSpec.ofChange bottleWaterSpec)

/-- ITS FALSE NEIGHBOUR: 'it returns false'. Refute it at one input. -/
def bottleWaterWrong : ChangeSpec := { name := "bottleWater", fn := fun _ => fun
  | [d1, d2, d3, d4] => { results := [.lit (.bool false)], args := [d1, d2, d3, d4] }
  | _ => none }
def BottleWaterWrongFalsely : Prop := bottleWaterRow.holds Try.pinned (OpenSpec.ofChange bottleWaterWrong)

/-- 'wormtublaw12.BottleLess': WHATEVER THE INPUT: true; the input reads as it did. -/
def bottleLessSpec : ChangeSpec := { name := "bottleLess", fn := fun _ => fun
  | [d1, d2, d3, d4] => { results := [.lit (.bool true)], args := [d1, d2, d3, d4] }
  | _ => none }
def bottleLessRow : OpenClaim := { program := "ytbomfcghpajaiaa", sum := "b696a8fe2a3abb3dbe50a163ae72f66c065ab65e631401d967c7131868d9f3c9", func := "wormtub/wormtublaw12.BottleLess", spec := "bottleLess", unfollowed := true, recurses := true, apart := false }
def BottleLessSaid : Prop := bottleLessRow.holds Try.pinned (OpenSpec.ofChange bottleLessSpec)

/-- ITS FALSE NEIGHBOUR: 'it returns false'. Refute it at one input. -/
def bottleLessWrong : ChangeSpec := { name := "bottleLess", fn := fun _ => fun
  | [d1, d2, d3, d4] => { results := [.lit (.bool false)], args := [d1, d2, d3, d4] }
  | _ => none }
def BottleLessWrongFalsely : Prop := bottleLessRow.holds Try.pinned (OpenSpec.ofChange bottleLessWrong)

/-- 'wormtublaw12.BottleOnce': WHATEVER THE INPUT: true; the input reads as it did. -/
def bottleOnceSpec : ChangeSpec := { name := "bottleOnce", fn := fun _ => fun
  | [d1, d2, d3] => { results := [.lit (.bool true)], args := [d1, d2, d3] }
  | _ => none }
def bottleOnceRow : OpenClaim := { program := "ytbomfcghpajaiaa", sum := "b696a8fe2a3abb3dbe50a163ae72f66c065ab65e631401d967c7131868d9f3c9", func := "wormtub/wormtublaw12.BottleOnce", spec := "bottleOnce", unfollowed := true, recurses := true, apart := false }
def BottleOnceSaid : Prop := bottleOnceRow.holds Try.pinned (OpenSpec.ofChange bottleOnceSpec)

/-- ITS FALSE NEIGHBOUR: 'it returns false'. Refute it at one input. -/
def bottleOnceWrong : ChangeSpec := { name := "bottleOnce", fn := fun _ => fun
  | [d1, d2, d3] => { results := [.lit (.bool false)], args := [d1, d2, d3] }
  | _ => none }
def BottleOnceWrongFalsely : Prop := bottleOnceRow.holds Try.pinned (OpenSpec.ofChange bottleOnceWrong)

/-- 'wormtublaw12.BottleBlends': WHATEVER THE INPUT: true; the input reads as it did. -/
def bottleBlendsSpec : ChangeSpec := { name := "bottleBlends", fn := fun _ => fun
  | [d1, d2, d3, d4] => { results := [.lit (.bool true)], args := [d1, d2, d3, d4] }
  | _ => none }
def bottleBlendsRow : OpenClaim := { program := "ytbomfcghpajaiaa", sum := "b696a8fe2a3abb3dbe50a163ae72f66c065ab65e631401d967c7131868d9f3c9", func := "wormtub/wormtublaw12.BottleBlends", spec := "bottleBlends", unfollowed := true, recurses := true, apart := false }
def BottleBlendsSaid : Prop := bottleBlendsRow.holds Try.pinned (OpenSpec.ofChange bottleBlendsSpec)

/-- ITS FALSE NEIGHBOUR: 'it returns false'. Refute it at one input. -/
def bottleBlendsWrong : ChangeSpec := { name := "bottleBlends", fn := fun _ => fun
  | [d1, d2, d3, d4] => { results := [.lit (.bool false)], args := [d1, d2, d3, d4] }
  | _ => none }
def BottleBlendsWrongFalsely : Prop := bottleBlendsRow.holds Try.pinned (OpenSpec.ofChange bottleBlendsWrong)

/-- 'wormtublaw12.BottleLabels': WHATEVER THE INPUT: true; the input reads as it did. -/
def bottleLabelsSpec : ChangeSpec := { name := "bottleLabels", fn := fun _ => fun
  | [d1, d2, d3, d4] => { results := [.lit (.bool true)], args := [d1, d2, d3, d4] }
  | _ => none }
def bottleLabelsRow : OpenClaim := { program := "ytbomfcghpajaiaa", sum := "b696a8fe2a3abb3dbe50a163ae72f66c065ab65e631401d967c7131868d9f3c9", func := "wormtub/wormtublaw12.BottleLabels", spec := "bottleLabels", unfollowed := true, recurses := true, apart := false }
def BottleLabelsSaid : Prop := bottleLabelsRow.holds Try.pinned (OpenSpec.ofChange bottleLabelsSpec)

/-- ITS FALSE NEIGHBOUR: 'it returns false'. Refute it at one input. -/
def bottleLabelsWrong : ChangeSpec := { name := "bottleLabels", fn := fun _ => fun
  | [d1, d2, d3, d4] => { results := [.lit (.bool false)], args := [d1, d2, d3, d4] }
  | _ => none }
def BottleLabelsWrongFalsely : Prop := bottleLabelsRow.holds Try.pinned (OpenSpec.ofChange bottleLabelsWrong)

/- THE SECOND FORM. 'bulk': how many values and letters a reading holds, each counted each time it is reached (what is shared counts as often as it is met; a slice's spare places count too). A statement '..UptoSaid' is the law's where the arguments, and the package variables that the reading takes, are together of bulk at most 1048576: NARROWER than '..Said'. Prove '..Said' where nothing that the law and all that it calls make is longer than what came in: it says more and counts as full. Else prove '..UptoSaid'. A law counts once. -/
mutual
def uptoBulk {H : Type} : DataW H → Nat
  | .lit (.string bytes) => bytes.length + 1
  | .lit _ => 1
  | .nil => 1
  | .ptr d => uptoBulk d + 1
  | .slice elems spare => uptoBulkAll elems + uptoBulkAll spare + 1
  | .agg parts => uptoBulkAll parts + 1
  | .iface _ d => uptoBulk d + 1
  | .map entries => uptoBulkEntries entries + 1
  | .held _ => 1
def uptoBulkAll {H : Type} : List (DataW H) → Nat
  | [] => 0
  | d :: r => uptoBulk d + uptoBulkAll r
def uptoBulkEntries {H : Type} : List (Lit × DataW H) → Nat
  | [] => 0
  | x :: r => uptoBulkEntry x + uptoBulkEntries r
def uptoBulkEntry {H : Type} : Lit × DataW H → Nat
  | (.string bytes, d) => bytes.length + uptoBulk d + 1
  | (_, d) => uptoBulk d + 1
 end
def uptoSmall : (H : Type) → List (DataW H) → Bool := fun _ ds => decide (uptoBulkAll ds ≤ 1048576)
def OpenSpec.upto (s : _root_.Go.ChangeSpec) : _root_.Go.OpenSpec := { _root_.Go.OpenSpec.ofChange s with cond := some uptoSmall }

/-- 'wormtublaw12.BottleStamps', WHERE WHAT IT READS IS OF BULK AT MOST 1048576: true; the input reads as it did. -/
def bottleStampsUptoRow : OpenClaim := { program := "ytbomfcghpajaiaa", sum := "b696a8fe2a3abb3dbe50a163ae72f66c065ab65e631401d967c7131868d9f3c9", func := "wormtub/wormtublaw12.BottleStamps", spec := "bottleStamps", unfollowed := true, recurses := true, apart := false, narrowed := true }
def BottleStampsUptoSaid : Prop := bottleStampsUptoRow.holds Try.pinned (OpenSpec.upto bottleStampsSpec)

/-- 'wormtublaw12.BottleDrops', WHERE WHAT IT READS IS OF BULK AT MOST 1048576: true; the input reads as it did. -/
def bottleDropsUptoRow : OpenClaim := { program := "ytbomfcghpajaiaa", sum := "b696a8fe2a3abb3dbe50a163ae72f66c065ab65e631401d967c7131868d9f3c9", func := "wormtub/wormtublaw12.BottleDrops", spec := "bottleDrops", unfollowed := true, recurses := true, apart := false, narrowed := true }
def BottleDropsUptoSaid : Prop := bottleDropsUptoRow.holds Try.pinned (OpenSpec.upto bottleDropsSpec)

/-- 'wormtublaw12.BottleTrue', WHERE WHAT IT READS IS OF BULK AT MOST 1048576: true; the input reads as it did. -/
def bottleTrueUptoRow : OpenClaim := { program := "ytbomfcghpajaiaa", sum := "b696a8fe2a3abb3dbe50a163ae72f66c065ab65e631401d967c7131868d9f3c9", func := "wormtub/wormtublaw12.BottleTrue", spec := "bottleTrue", unfollowed := true, recurses := true, apart := false, narrowed := true }
def BottleTrueUptoSaid : Prop := bottleTrueUptoRow.holds Try.pinned (OpenSpec.upto bottleTrueSpec)

/-- 'wormtublaw12.BottleWater', WHERE WHAT IT READS IS OF BULK AT MOST 1048576: true; the input reads as it did. -/
def bottleWaterUptoRow : OpenClaim := { program := "ytbomfcghpajaiaa", sum := "b696a8fe2a3abb3dbe50a163ae72f66c065ab65e631401d967c7131868d9f3c9", func := "wormtub/wormtublaw12.BottleWater", spec := "bottleWater", unfollowed := true, recurses := true, apart := false, narrowed := true }
def BottleWaterUptoSaid : Prop := bottleWaterUptoRow.holds Try.pinned (OpenSpec.upto bottleWaterSpec)

/-- 'wormtublaw12.BottleLess', WHERE WHAT IT READS IS OF BULK AT MOST 1048576: true; the input reads as it did. -/
def bottleLessUptoRow : OpenClaim := { program := "ytbomfcghpajaiaa", sum := "b696a8fe2a3abb3dbe50a163ae72f66c065ab65e631401d967c7131868d9f3c9", func := "wormtub/wormtublaw12.BottleLess", spec := "bottleLess", unfollowed := true, recurses := true, apart := false, narrowed := true }
def BottleLessUptoSaid : Prop := bottleLessUptoRow.holds Try.pinned (OpenSpec.upto bottleLessSpec)

/-- 'wormtublaw12.BottleOnce', WHERE WHAT IT READS IS OF BULK AT MOST 1048576: true; the input reads as it did. -/
def bottleOnceUptoRow : OpenClaim := { program := "ytbomfcghpajaiaa", sum := "b696a8fe2a3abb3dbe50a163ae72f66c065ab65e631401d967c7131868d9f3c9", func := "wormtub/wormtublaw12.BottleOnce", spec := "bottleOnce", unfollowed := true, recurses := true, apart := false, narrowed := true }
def BottleOnceUptoSaid : Prop := bottleOnceUptoRow.holds Try.pinned (OpenSpec.upto bottleOnceSpec)

/-- 'wormtublaw12.BottleBlends', WHERE WHAT IT READS IS OF BULK AT MOST 1048576: true; the input reads as it did. -/
def bottleBlendsUptoRow : OpenClaim := { program := "ytbomfcghpajaiaa", sum := "b696a8fe2a3abb3dbe50a163ae72f66c065ab65e631401d967c7131868d9f3c9", func := "wormtub/wormtublaw12.BottleBlends", spec := "bottleBlends", unfollowed := true, recurses := true, apart := false, narrowed := true }
def BottleBlendsUptoSaid : Prop := bottleBlendsUptoRow.holds Try.pinned (OpenSpec.upto bottleBlendsSpec)

/-- 'wormtublaw12.BottleLabels', WHERE WHAT IT READS IS OF BULK AT MOST 1048576: true; the input reads as it did. -/
def bottleLabelsUptoRow : OpenClaim := { program := "ytbomfcghpajaiaa", sum := "b696a8fe2a3abb3dbe50a163ae72f66c065ab65e631401d967c7131868d9f3c9", func := "wormtub/wormtublaw12.BottleLabels", spec := "bottleLabels", unfollowed := true, recurses := true, apart := false, narrowed := true }
def BottleLabelsUptoSaid : Prop := bottleLabelsUptoRow.holds Try.pinned (OpenSpec.upto bottleLabelsSpec)

end Rows
end Go.Proofs.Ytbomfcghpajaiaa
