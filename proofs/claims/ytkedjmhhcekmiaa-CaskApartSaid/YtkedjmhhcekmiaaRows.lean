/-
  No cell of these rows narrows 'for every input' (looked for: loops, veiled, ifaces, maps, wideKeys, modest, calm, conditions, laid).
  DERIVED. THE GIVEN ROWS OF THIS SEAT. 7 by the template 'for every input the law returns true; each argument reads behind the call as it read before'; 0 by the template 'total and deterministic' (their statements: YtkedjmhhcekmiaaTotals.lean).
  GIVEN WITH THE SEED: the statements are not yours to turn. If you find one false, say at which input.
  Laid BY PROGRAM, IN A SANDBOX (cutbox-rows.mjs): the forced cells as the released guide's own fill.sh prints them over the translation f5867df2e290a232… (all of the seat's roots in one cut). By AI agents, Wed Nov 11 2026. No macro, syntax, notation, axiom, sorry.
-/
import Derived.Test.YtkedjmhhcekmiaaChecked
import GoSem.Claim
import GoSem.ClaimJoined
import GoSem.ClaimMapViews
import Derived.JoinedTies
import Derived.KernelRfl
namespace Go.Proofs.Ytkedjmhhcekmiaa
/- THE CELL 'sum', in the pinned program and in every row, IS THE sha256 OF THE DUMP (.gsa) THAT YtkedjmhhcekmiaaProg.lean LOADS. Nothing in Lean hashes anything: it is a label: what it is worth is what the hold of that sum in a sandbox is worth. -/
noncomputable def Try.pinned : Pinned := { name := "ytkedjmhhcekmiaa", sum := "f5867df2e290a232e0117b9bb50b7e288ad93a4762e6630ff51202b85db9cb51", checked := Try.checked }
namespace Rows
def none {H : Type} : Left H := { results := [], args := [] }

/-- 'wormtublaw06.CaskPlays': WHATEVER THE INPUT: true; the input reads as it did. -/
def caskPlaysSpec : ChangeSpec := { name := "caskPlays", fn := fun _ => fun
  | [d1, d2, d3] => { results := [.lit (.bool true)], args := [d1, d2, d3] }
  | _ => none }
def caskPlaysRow : OpenClaim := { program := "ytkedjmhhcekmiaa", sum := "f5867df2e290a232e0117b9bb50b7e288ad93a4762e6630ff51202b85db9cb51", func := "wormtub/wormtublaw06.CaskPlays", spec := "caskPlays", inPlace := ["maps.clone"], unfollowed := true, recurses := true, apart := false }
def CaskPlaysSaid : Prop := caskPlaysRow.holds Try.pinned (OpenSpec.ofChange caskPlaysSpec)

/-- ITS FALSE NEIGHBOUR: 'it returns false'. Refute it at one input. -/
def caskPlaysWrong : ChangeSpec := { name := "caskPlays", fn := fun _ => fun
  | [d1, d2, d3] => { results := [.lit (.bool false)], args := [d1, d2, d3] }
  | _ => none }
def CaskPlaysWrongFalsely : Prop := caskPlaysRow.holds Try.pinned (OpenSpec.ofChange caskPlaysWrong)

/-- 'wormtublaw06.CaskOwned': WHATEVER THE INPUT: true; the input reads as it did. -/
def caskOwnedSpec : ChangeSpec := { name := "caskOwned", fn := fun _ => fun
  | [d1, d2, d3, d4] => { results := [.lit (.bool true)], args := [d1, d2, d3, d4] }
  | _ => none }
def caskOwnedRow : OpenClaim := { program := "ytkedjmhhcekmiaa", sum := "f5867df2e290a232e0117b9bb50b7e288ad93a4762e6630ff51202b85db9cb51", func := "wormtub/wormtublaw06.CaskOwned", spec := "caskOwned", inPlace := ["maps.clone"], unfollowed := true, recurses := true, apart := false }
def CaskOwnedSaid : Prop := caskOwnedRow.holds Try.pinned (OpenSpec.ofChange caskOwnedSpec)

/-- ITS FALSE NEIGHBOUR: 'it returns false'. Refute it at one input. -/
def caskOwnedWrong : ChangeSpec := { name := "caskOwned", fn := fun _ => fun
  | [d1, d2, d3, d4] => { results := [.lit (.bool false)], args := [d1, d2, d3, d4] }
  | _ => none }
def CaskOwnedWrongFalsely : Prop := caskOwnedRow.holds Try.pinned (OpenSpec.ofChange caskOwnedWrong)

/-- 'wormtublaw06.CaskDrops': WHATEVER THE INPUT: true; the input reads as it did. -/
def caskDropsSpec : ChangeSpec := { name := "caskDrops", fn := fun _ => fun
  | [d1, d2, d3, d4] => { results := [.lit (.bool true)], args := [d1, d2, d3, d4] }
  | _ => none }
def caskDropsRow : OpenClaim := { program := "ytkedjmhhcekmiaa", sum := "f5867df2e290a232e0117b9bb50b7e288ad93a4762e6630ff51202b85db9cb51", func := "wormtub/wormtublaw06.CaskDrops", spec := "caskDrops", inPlace := ["maps.clone"], unfollowed := true, recurses := true, apart := false }
def CaskDropsSaid : Prop := caskDropsRow.holds Try.pinned (OpenSpec.ofChange caskDropsSpec)

/-- ITS FALSE NEIGHBOUR: 'it returns false'. Refute it at one input. -/
def caskDropsWrong : ChangeSpec := { name := "caskDrops", fn := fun _ => fun
  | [d1, d2, d3, d4] => { results := [.lit (.bool false)], args := [d1, d2, d3, d4] }
  | _ => none }
def CaskDropsWrongFalsely : Prop := caskDropsRow.holds Try.pinned (OpenSpec.ofChange caskDropsWrong)

/-- 'wormtublaw06.CaskConserves': WHATEVER THE INPUT: true; the input reads as it did. -/
def caskConservesSpec : ChangeSpec := { name := "caskConserves", fn := fun _ => fun
  | [d1, d2] => { results := [.lit (.bool true)], args := [d1, d2] }
  | _ => none }
def caskConservesRow : OpenClaim := { program := "ytkedjmhhcekmiaa", sum := "f5867df2e290a232e0117b9bb50b7e288ad93a4762e6630ff51202b85db9cb51", func := "wormtub/wormtublaw06.CaskConserves", spec := "caskConserves", inPlace := ["maps.clone"], unfollowed := true, recurses := true, apart := false }
def CaskConservesSaid : Prop := caskConservesRow.holds Try.pinned (OpenSpec.ofChange caskConservesSpec)

/-- ITS FALSE NEIGHBOUR: 'it returns false'. Refute it at one input. -/
def caskConservesWrong : ChangeSpec := { name := "caskConserves", fn := fun _ => fun
  | [d1, d2] => { results := [.lit (.bool false)], args := [d1, d2] }
  | _ => none }
def CaskConservesWrongFalsely : Prop := caskConservesRow.holds Try.pinned (OpenSpec.ofChange caskConservesWrong)

/-- 'wormtublaw06.CaskPledged': WHATEVER THE INPUT: true; the input reads as it did. -/
def caskPledgedSpec : ChangeSpec := { name := "caskPledged", fn := fun _ => fun
  | [d1, d2, d3] => { results := [.lit (.bool true)], args := [d1, d2, d3] }
  | _ => none }
def caskPledgedRow : OpenClaim := { program := "ytkedjmhhcekmiaa", sum := "f5867df2e290a232e0117b9bb50b7e288ad93a4762e6630ff51202b85db9cb51", func := "wormtub/wormtublaw06.CaskPledged", spec := "caskPledged", inPlace := ["maps.clone"], unfollowed := true, recurses := true, apart := false }
def CaskPledgedSaid : Prop := caskPledgedRow.holds Try.pinned (OpenSpec.ofChange caskPledgedSpec)

/-- ITS FALSE NEIGHBOUR: 'it returns false'. Refute it at one input. -/
def caskPledgedWrong : ChangeSpec := { name := "caskPledged", fn := fun _ => fun
  | [d1, d2, d3] => { results := [.lit (.bool false)], args := [d1, d2, d3] }
  | _ => none }
def CaskPledgedWrongFalsely : Prop := caskPledgedRow.holds Try.pinned (OpenSpec.ofChange caskPledgedWrong)

/-- 'wormtublaw06.CaskDays': WHATEVER THE INPUT: true; the input reads as it did. -/
def caskDaysSpec : ChangeSpec := { name := "caskDays", fn := fun _ => fun
  | [d1, d2, d3] => { results := [.lit (.bool true)], args := [d1, d2, d3] }
  | _ => none }
def caskDaysRow : OpenClaim := { program := "ytkedjmhhcekmiaa", sum := "f5867df2e290a232e0117b9bb50b7e288ad93a4762e6630ff51202b85db9cb51", func := "wormtub/wormtublaw06.CaskDays", spec := "caskDays", inPlace := ["maps.clone"], unfollowed := true, recurses := true, apart := false }
def CaskDaysSaid : Prop := caskDaysRow.holds Try.pinned (OpenSpec.ofChange caskDaysSpec)

/-- ITS FALSE NEIGHBOUR: 'it returns false'. Refute it at one input. -/
def caskDaysWrong : ChangeSpec := { name := "caskDays", fn := fun _ => fun
  | [d1, d2, d3] => { results := [.lit (.bool false)], args := [d1, d2, d3] }
  | _ => none }
def CaskDaysWrongFalsely : Prop := caskDaysRow.holds Try.pinned (OpenSpec.ofChange caskDaysWrong)

/-- 'wormtublaw06.CaskApart': WHATEVER THE INPUT: true; the input reads as it did. -/
def caskApartSpec : ChangeSpec := { name := "caskApart", fn := fun _ => fun
  | [d1, d2] => { results := [.lit (.bool true)], args := [d1, d2] }
  | _ => none }
def caskApartRow : OpenClaim := { program := "ytkedjmhhcekmiaa", sum := "f5867df2e290a232e0117b9bb50b7e288ad93a4762e6630ff51202b85db9cb51", func := "wormtub/wormtublaw06.CaskApart", spec := "caskApart", inPlace := ["maps.clone"], unfollowed := true, recurses := true, apart := false }
def CaskApartSaid : Prop := caskApartRow.holds Try.pinned (OpenSpec.ofChange caskApartSpec)

/-- ITS FALSE NEIGHBOUR: 'it returns false'. Refute it at one input. -/
def caskApartWrong : ChangeSpec := { name := "caskApart", fn := fun _ => fun
  | [d1, d2] => { results := [.lit (.bool false)], args := [d1, d2] }
  | _ => none }
def CaskApartWrongFalsely : Prop := caskApartRow.holds Try.pinned (OpenSpec.ofChange caskApartWrong)

/- THE SECOND FORM. 'bulk': how many values and letters a reading holds, each counted each time it is reached (what is shared counts as often as it is met; a slice's spare places count too). A statement '..UptoSaid' is the law's where the arguments, and the package variables that the reading takes, are together of bulk at most 1048576: NARROWER than '..Said'. Prove '..Said' where nothing that the law and all that it calls make is longer than what came in: it says more and counts as full. Else prove '..UptoSaid'. A law counts once. -/
mutual
def uptoBulk {H : Type} : DataW H → Nat
  | .lit (.string bytes) => bytes.length + 1
  | .lit _ => 1
  | .nil => 1
  | .ptr d => uptoBulk d + 1
  | .slice elems spare => uptoBulkAll elems + uptoBulkAll spare + 1
  | .agg parts => uptoBulkAll parts + 1
  | .iface _ d => uptoBulk d + 1
  | .map entries => uptoBulkEntries entries + 1
  | .held _ => 1
def uptoBulkAll {H : Type} : List (DataW H) → Nat
  | [] => 0
  | d :: r => uptoBulk d + uptoBulkAll r
def uptoBulkEntries {H : Type} : List (Lit × DataW H) → Nat
  | [] => 0
  | x :: r => uptoBulkEntry x + uptoBulkEntries r
def uptoBulkEntry {H : Type} : Lit × DataW H → Nat
  | (.string bytes, d) => bytes.length + uptoBulk d + 1
  | (_, d) => uptoBulk d + 1
 end
def uptoSmall : (H : Type) → List (DataW H) → Bool := fun _ ds => decide (uptoBulkAll ds ≤ 1048576)
def OpenSpec.upto (s : _root_.Go.ChangeSpec) : _root_.Go.OpenSpec := { _root_.Go.OpenSpec.ofChange s with cond := some uptoSmall }

/-- 'wormtublaw06.CaskPlays', WHERE WHAT IT READS IS OF BULK AT MOST 1048576: true; the input reads as it did. -/
def caskPlaysUptoRow : OpenClaim := { program := "ytkedjmhhcekmiaa", sum := "f5867df2e290a232e0117b9bb50b7e288ad93a4762e6630ff51202b85db9cb51", func := "wormtub/wormtublaw06.CaskPlays", spec := "caskPlays", inPlace := ["maps.clone"], unfollowed := true, recurses := true, apart := false, narrowed := true }
def CaskPlaysUptoSaid : Prop := caskPlaysUptoRow.holds Try.pinned (OpenSpec.upto caskPlaysSpec)

/-- 'wormtublaw06.CaskOwned', WHERE WHAT IT READS IS OF BULK AT MOST 1048576: true; the input reads as it did. -/
def caskOwnedUptoRow : OpenClaim := { program := "ytkedjmhhcekmiaa", sum := "f5867df2e290a232e0117b9bb50b7e288ad93a4762e6630ff51202b85db9cb51", func := "wormtub/wormtublaw06.CaskOwned", spec := "caskOwned", inPlace := ["maps.clone"], unfollowed := true, recurses := true, apart := false, narrowed := true }
def CaskOwnedUptoSaid : Prop := caskOwnedUptoRow.holds Try.pinned (OpenSpec.upto caskOwnedSpec)

/-- 'wormtublaw06.CaskDrops', WHERE WHAT IT READS IS OF BULK AT MOST 1048576: true; the input reads as it did. -/
def caskDropsUptoRow : OpenClaim := { program := "ytkedjmhhcekmiaa", sum := "f5867df2e290a232e0117b9bb50b7e288ad93a4762e6630ff51202b85db9cb51", func := "wormtub/wormtublaw06.CaskDrops", spec := "caskDrops", inPlace := ["maps.clone"], unfollowed := true, recurses := true, apart := false, narrowed := true }
def CaskDropsUptoSaid : Prop := caskDropsUptoRow.holds Try.pinned (OpenSpec.upto caskDropsSpec)

/-- 'wormtublaw06.CaskConserves', WHERE WHAT IT READS IS OF BULK AT MOST 1048576: true; the input reads as it did. -/
def caskConservesUptoRow : OpenClaim := { program := "ytkedjmhhcekmiaa", sum := "f5867df2e290a232e0117b9bb50b7e288ad93a4762e6630ff51202b85db9cb51", func := "wormtub/wormtublaw06.CaskConserves", spec := "caskConserves", inPlace := ["maps.clone"], unfollowed := true, recurses := true, apart := false, narrowed := true }
def CaskConservesUptoSaid : Prop := caskConservesUptoRow.holds Try.pinned (OpenSpec.upto caskConservesSpec)

/-- 'wormtublaw06.CaskPledged', WHERE WHAT IT READS IS OF BULK AT MOST 1048576: true; the input reads as it did. -/
def caskPledgedUptoRow : OpenClaim := { program := "ytkedjmhhcekmiaa", sum := "f5867df2e290a232e0117b9bb50b7e288ad93a4762e6630ff51202b85db9cb51", func := "wormtub/wormtublaw06.CaskPledged", spec := "caskPledged", inPlace := ["maps.clone"], unfollowed := true, recurses := true, apart := false, narrowed := true }
def CaskPledgedUptoSaid : Prop := caskPledgedUptoRow.holds Try.pinned (OpenSpec.upto caskPledgedSpec)

/-- 'wormtublaw06.CaskDays', WHERE WHAT IT READS IS OF BULK AT MOST 1048576: true; the input reads as it did. -/
def caskDaysUptoRow : OpenClaim := { program := "ytkedjmhhcekmiaa", sum := "f5867df2e290a232e0117b9bb50b7e288ad93a4762e6630ff51202b85db9cb51", func := "wormtub/wormtublaw06.CaskDays", spec := "caskDays", inPlace := ["maps.clone"], unfollowed := true, recurses := true, apart := false, narrowed := true }
def CaskDaysUptoSaid : Prop := caskDaysUptoRow.holds Try.pinned (OpenSpec.upto caskDaysSpec)

/-- 'wormtublaw06.CaskApart', WHERE WHAT IT READS IS OF BULK AT MOST 1048576: true; the input reads as it did. -/
def caskApartUptoRow : OpenClaim := { program := "ytkedjmhhcekmiaa", sum := "f5867df2e290a232e0117b9bb50b7e288ad93a4762e6630ff51202b85db9cb51", func := "wormtub/wormtublaw06.CaskApart", spec := "caskApart", inPlace := ["maps.clone"], unfollowed := true, recurses := true, apart := false, narrowed := true }
def CaskApartUptoSaid : Prop := caskApartUptoRow.holds Try.pinned (OpenSpec.upto caskApartSpec)

end Rows
end Go.Proofs.Ytkedjmhhcekmiaa
