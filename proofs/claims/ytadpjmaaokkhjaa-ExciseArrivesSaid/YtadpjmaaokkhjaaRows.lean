/-
  No cell of these rows narrows 'for every input' (looked for: loops, veiled, ifaces, maps, wideKeys, modest, calm, conditions, laid).
  DERIVED. THE GIVEN ROWS OF THIS SEAT. 8 by the template 'for every input the law returns true; each argument reads behind the call as it read before'; 0 by the template 'total and deterministic' (their statements: YtadpjmaaokkhjaaTotals.lean).
  GIVEN WITH THE SEED: the statements are not yours to turn. If you find one false, say at which input.
  Laid BY PROGRAM, IN A SANDBOX (cutbox-rows.mjs): the forced cells as the released guide's own fill.sh prints them over the translation dd05535985bd1e20… (all of the seat's roots in one cut). By AI agents, Wed Nov 11 2026. No macro, syntax, notation, axiom, sorry.
-/
import Derived.Test.YtadpjmaaokkhjaaChecked
import GoSem.Claim
import GoSem.ClaimJoined
import GoSem.ClaimMapViews
import Derived.JoinedTies
import Derived.KernelRfl
namespace Go.Proofs.Ytadpjmaaokkhjaa
/- THE CELL 'sum', in the pinned program and in every row, IS THE sha256 OF THE DUMP (.gsa) THAT YtadpjmaaokkhjaaProg.lean LOADS. Nothing in Lean hashes anything: it is a label: what it is worth is what the hold of that sum in a sandbox is worth. -/
noncomputable def Try.pinned : Pinned := { name := "ytadpjmaaokkhjaa", sum := "dd05535985bd1e20ef24b61418af5c9575b15b05117972cec91a00cfc6a84f6f", checked := Try.checked }
namespace Rows
def none {H : Type} : Left H := { results := [], args := [] }

/-- 'wormtublaw11.ExciseBooks': WHATEVER THE INPUT: true; the input reads as it did. -/
def exciseBooksSpec : ChangeSpec := { name := "exciseBooks", fn := fun _ => fun
  | [d1, d2, d3, d4] => { results := [.lit (.bool true)], args := [d1, d2, d3, d4] }
  | _ => none }
def exciseBooksRow : OpenClaim := { program := "ytadpjmaaokkhjaa", sum := "dd05535985bd1e20ef24b61418af5c9575b15b05117972cec91a00cfc6a84f6f", func := "wormtub/wormtublaw11.ExciseBooks", spec := "exciseBooks", unfollowed := true, recurses := true, apart := false }
def ExciseBooksSaid : Prop := exciseBooksRow.holds Try.pinned (OpenSpec.ofChange exciseBooksSpec)

/-- ITS FALSE NEIGHBOUR: 'it returns false'. Refute it at one input. -/
def exciseBooksWrong : ChangeSpec := { name := "exciseBooks", fn := fun _ => fun
  | [d1, d2, d3, d4] => { results := [.lit (.bool false)], args := [d1, d2, d3, d4] }
  | _ => none }
def ExciseBooksWrongFalsely : Prop := exciseBooksRow.holds Try.pinned (OpenSpec.ofChange exciseBooksWrong)

/-- 'wormtublaw11.ExciseReturns': WHATEVER THE INPUT: true; the input reads as it did. -/
def exciseReturnsSpec : ChangeSpec := { name := "exciseReturns", fn := fun _ => fun
  | [d1, d2, d3, d4, d5] => { results := [.lit (.bool true)], args := [d1, d2, d3, d4, d5] }
  | _ => none }
def exciseReturnsRow : OpenClaim := { program := "ytadpjmaaokkhjaa", sum := "dd05535985bd1e20ef24b61418af5c9575b15b05117972cec91a00cfc6a84f6f", func := "wormtub/wormtublaw11.ExciseReturns", spec := "exciseReturns", unfollowed := true, recurses := true, apart := false }
def ExciseReturnsSaid : Prop := exciseReturnsRow.holds Try.pinned (OpenSpec.ofChange exciseReturnsSpec)

/-- ITS FALSE NEIGHBOUR: 'it returns false'. Refute it at one input. -/
def exciseReturnsWrong : ChangeSpec := { name := "exciseReturns", fn := fun _ => fun
  | [d1, d2, d3, d4, d5] => { results := [.lit (.bool false)], args := [d1, d2, d3, d4, d5] }
  | _ => none }
def ExciseReturnsWrongFalsely : Prop := exciseReturnsRow.holds Try.pinned (OpenSpec.ofChange exciseReturnsWrong)

/-- 'wormtublaw11.ExciseOnce': WHATEVER THE INPUT: true; the input reads as it did. -/
def exciseOnceSpec : ChangeSpec := { name := "exciseOnce", fn := fun _ => fun
  | [d1, d2, d3] => { results := [.lit (.bool true)], args := [d1, d2, d3] }
  | _ => none }
def exciseOnceRow : OpenClaim := { program := "ytadpjmaaokkhjaa", sum := "dd05535985bd1e20ef24b61418af5c9575b15b05117972cec91a00cfc6a84f6f", func := "wormtub/wormtublaw11.ExciseOnce", spec := "exciseOnce", unfollowed := true, recurses := true, apart := false }
def ExciseOnceSaid : Prop := exciseOnceRow.holds Try.pinned (OpenSpec.ofChange exciseOnceSpec)

/-- ITS FALSE NEIGHBOUR: 'it returns false'. Refute it at one input. -/
def exciseOnceWrong : ChangeSpec := { name := "exciseOnce", fn := fun _ => fun
  | [d1, d2, d3] => { results := [.lit (.bool false)], args := [d1, d2, d3] }
  | _ => none }
def ExciseOnceWrongFalsely : Prop := exciseOnceRow.holds Try.pinned (OpenSpec.ofChange exciseOnceWrong)

/-- 'wormtublaw11.ExciseJust': WHATEVER THE INPUT: true; the input reads as it did. -/
def exciseJustSpec : ChangeSpec := { name := "exciseJust", fn := fun _ => fun
  | [d1, d2, d3, d4] => { results := [.lit (.bool true)], args := [d1, d2, d3, d4] }
  | _ => none }
def exciseJustRow : OpenClaim := { program := "ytadpjmaaokkhjaa", sum := "dd05535985bd1e20ef24b61418af5c9575b15b05117972cec91a00cfc6a84f6f", func := "wormtub/wormtublaw11.ExciseJust", spec := "exciseJust", unfollowed := true, recurses := true, apart := false }
def ExciseJustSaid : Prop := exciseJustRow.holds Try.pinned (OpenSpec.ofChange exciseJustSpec)

/-- ITS FALSE NEIGHBOUR: 'it returns false'. Refute it at one input. -/
def exciseJustWrong : ChangeSpec := { name := "exciseJust", fn := fun _ => fun
  | [d1, d2, d3, d4] => { results := [.lit (.bool false)], args := [d1, d2, d3, d4] }
  | _ => none }
def ExciseJustWrongFalsely : Prop := exciseJustRow.holds Try.pinned (OpenSpec.ofChange exciseJustWrong)

/-- 'wormtublaw11.ExciseAdds': WHATEVER THE INPUT: true; the input reads as it did. -/
def exciseAddsSpec : ChangeSpec := { name := "exciseAdds", fn := fun _ => fun
  | [d1, d2, d3, d4, d5] => { results := [.lit (.bool true)], args := [d1, d2, d3, d4, d5] }
  | _ => none }
def exciseAddsRow : OpenClaim := { program := "ytadpjmaaokkhjaa", sum := "dd05535985bd1e20ef24b61418af5c9575b15b05117972cec91a00cfc6a84f6f", func := "wormtub/wormtublaw11.ExciseAdds", spec := "exciseAdds", unfollowed := true, recurses := true, apart := false }
def ExciseAddsSaid : Prop := exciseAddsRow.holds Try.pinned (OpenSpec.ofChange exciseAddsSpec)

/-- ITS FALSE NEIGHBOUR: 'it returns false'. Refute it at one input. -/
def exciseAddsWrong : ChangeSpec := { name := "exciseAdds", fn := fun _ => fun
  | [d1, d2, d3, d4, d5] => { results := [.lit (.bool false)], args := [d1, d2, d3, d4, d5] }
  | _ => none }
def ExciseAddsWrongFalsely : Prop := exciseAddsRow.holds Try.pinned (OpenSpec.ofChange exciseAddsWrong)

/-- 'wormtublaw11.ExciseKinder': WHATEVER THE INPUT: true; the input reads as it did. -/
def exciseKinderSpec : ChangeSpec := { name := "exciseKinder", fn := fun _ => fun
  | [d1, d2, d3, d4, d5, d6] => { results := [.lit (.bool true)], args := [d1, d2, d3, d4, d5, d6] }
  | _ => none }
def exciseKinderRow : OpenClaim := { program := "ytadpjmaaokkhjaa", sum := "dd05535985bd1e20ef24b61418af5c9575b15b05117972cec91a00cfc6a84f6f", func := "wormtub/wormtublaw11.ExciseKinder", spec := "exciseKinder", unfollowed := true, recurses := true, apart := false }
def ExciseKinderSaid : Prop := exciseKinderRow.holds Try.pinned (OpenSpec.ofChange exciseKinderSpec)

/-- ITS FALSE NEIGHBOUR: 'it returns false'. Refute it at one input. -/
def exciseKinderWrong : ChangeSpec := { name := "exciseKinder", fn := fun _ => fun
  | [d1, d2, d3, d4, d5, d6] => { results := [.lit (.bool false)], args := [d1, d2, d3, d4, d5, d6] }
  | _ => none }
def ExciseKinderWrongFalsely : Prop := exciseKinderRow.holds Try.pinned (OpenSpec.ofChange exciseKinderWrong)

/-- 'wormtublaw11.ExciseArrives': WHATEVER THE INPUT: true; the input reads as it did. -/
def exciseArrivesSpec : ChangeSpec := { name := "exciseArrives", fn := fun _ => fun
  | [d1, d2, d3, d4] => { results := [.lit (.bool true)], args := [d1, d2, d3, d4] }
  | _ => none }
def exciseArrivesRow : OpenClaim := { program := "ytadpjmaaokkhjaa", sum := "dd05535985bd1e20ef24b61418af5c9575b15b05117972cec91a00cfc6a84f6f", func := "wormtub/wormtublaw11.ExciseArrives", spec := "exciseArrives", unfollowed := true, recurses := true, apart := false }
def ExciseArrivesSaid : Prop := exciseArrivesRow.holds Try.pinned (OpenSpec.ofChange exciseArrivesSpec)

/-- ITS FALSE NEIGHBOUR: 'it returns false'. Refute it at one input. -/
def exciseArrivesWrong : ChangeSpec := { name := "exciseArrives", fn := fun _ => fun
  | [d1, d2, d3, d4] => { results := [.lit (.bool false)], args := [d1, d2, d3, d4] }
  | _ => none }
def ExciseArrivesWrongFalsely : Prop := exciseArrivesRow.holds Try.pinned (OpenSpec.ofChange exciseArrivesWrong)

/-- 'wormtublaw11.ExciseDays': WHATEVER THE INPUT: true; the input reads as it did. -/
def exciseDaysSpec : ChangeSpec := { name := "exciseDays", fn := fun _ => fun
  | [d1, d2, d3] => { results := [.lit (.bool true)], args := [d1, d2, d3] }
  | _ => none }
def exciseDaysRow : OpenClaim := { program := "ytadpjmaaokkhjaa", sum := "dd05535985bd1e20ef24b61418af5c9575b15b05117972cec91a00cfc6a84f6f", func := "wormtub/wormtublaw11.ExciseDays", spec := "exciseDays", unfollowed := true, recurses := true, apart := false }
def ExciseDaysSaid : Prop := exciseDaysRow.holds Try.pinned (OpenSpec.ofChange exciseDaysSpec)

/-- ITS FALSE NEIGHBOUR: 'it returns false'. Refute it at one input. -/
def exciseDaysWrong : ChangeSpec := { name := "exciseDays", fn := fun _ => fun
  | [d1, d2, d3] => { results := [.lit (.bool false)], args := [d1, d2, d3] }
  | _ => none }
def ExciseDaysWrongFalsely : Prop := exciseDaysRow.holds Try.pinned (OpenSpec.ofChange exciseDaysWrong)

/- THE SECOND FORM. 'bulk': how many values and letters a reading holds, each counted each time it is reached (what is shared counts as often as it is met; a slice's spare places count too). A statement '..UptoSaid' is the law's where the arguments, and the package variables that the reading takes, are together of bulk at most 1048576: NARROWER than '..Said'. Prove '..Said' where nothing that the law and all that it calls make is longer than what came in: it says more and counts as full. Else prove '..UptoSaid'. A law counts once. -/
mutual
def uptoBulk {H : Type} : DataW H → Nat
  | .lit (.string bytes) => bytes.length + 1
  | .lit _ => 1
  | .nil => 1
  | .ptr d => uptoBulk d + 1
  | .slice elems spare => uptoBulkAll elems + uptoBulkAll spare + 1
  | .agg parts => uptoBulkAll parts + 1
  | .iface _ d => uptoBulk d + 1
  | .map entries => uptoBulkEntries entries + 1
  | .held _ => 1
def uptoBulkAll {H : Type} : List (DataW H) → Nat
  | [] => 0
  | d :: r => uptoBulk d + uptoBulkAll r
def uptoBulkEntries {H : Type} : List (Lit × DataW H) → Nat
  | [] => 0
  | x :: r => uptoBulkEntry x + uptoBulkEntries r
def uptoBulkEntry {H : Type} : Lit × DataW H → Nat
  | (.string bytes, d) => bytes.length + uptoBulk d + 1
  | (_, d) => uptoBulk d + 1
 end
def uptoSmall : (H : Type) → List (DataW H) → Bool := fun _ ds => decide (uptoBulkAll ds ≤ 1048576)
def OpenSpec.upto (s : _root_.Go.ChangeSpec) : _root_.Go.OpenSpec := { _root_.Go.OpenSpec.ofChange s with cond := some uptoSmall }

/-- 'wormtublaw11.ExciseBooks', WHERE WHAT IT READS IS OF BULK AT MOST 1048576: true; the input reads as it did. -/
def exciseBooksUptoRow : OpenClaim := { program := "ytadpjmaaokkhjaa", sum := "dd05535985bd1e20ef24b61418af5c9575b15b05117972cec91a00cfc6a84f6f", func := "wormtub/wormtublaw11.ExciseBooks", spec := "exciseBooks", unfollowed := true, recurses := true, apart := false, narrowed := true }
def ExciseBooksUptoSaid : Prop := exciseBooksUptoRow.holds Try.pinned (OpenSpec.upto exciseBooksSpec)

/-- 'wormtublaw11.ExciseReturns', WHERE WHAT IT READS IS OF BULK AT MOST 1048576: true; the input reads as it did. -/
def exciseReturnsUptoRow : OpenClaim := { program := "ytadpjmaaokkhjaa", sum := "dd05535985bd1e20ef24b61418af5c9575b15b05117972cec91a00cfc6a84f6f", func := "wormtub/wormtublaw11.ExciseReturns", spec := "exciseReturns", unfollowed := true, recurses := true, apart := false, narrowed := true }
def ExciseReturnsUptoSaid : Prop := exciseReturnsUptoRow.holds Try.pinned (OpenSpec.upto exciseReturnsSpec)

/-- 'wormtublaw11.ExciseOnce', WHERE WHAT IT READS IS OF BULK AT MOST 1048576: true; the input reads as it did. -/
def exciseOnceUptoRow : OpenClaim := { program := "ytadpjmaaokkhjaa", sum := "dd05535985bd1e20ef24b61418af5c9575b15b05117972cec91a00cfc6a84f6f", func := "wormtub/wormtublaw11.ExciseOnce", spec := "exciseOnce", unfollowed := true, recurses := true, apart := false, narrowed := true }
def ExciseOnceUptoSaid : Prop := exciseOnceUptoRow.holds Try.pinned (OpenSpec.upto exciseOnceSpec)

/-- 'wormtublaw11.ExciseJust', WHERE WHAT IT READS IS OF BULK AT MOST 1048576: true; the input reads as it did. -/
def exciseJustUptoRow : OpenClaim := { program := "ytadpjmaaokkhjaa", sum := "dd05535985bd1e20ef24b61418af5c9575b15b05117972cec91a00cfc6a84f6f", func := "wormtub/wormtublaw11.ExciseJust", spec := "exciseJust", unfollowed := true, recurses := true, apart := false, narrowed := true }
def ExciseJustUptoSaid : Prop := exciseJustUptoRow.holds Try.pinned (OpenSpec.upto exciseJustSpec)

/-- 'wormtublaw11.ExciseAdds', WHERE WHAT IT READS IS OF BULK AT MOST 1048576: true; the input reads as it did. -/
def exciseAddsUptoRow : OpenClaim := { program := "ytadpjmaaokkhjaa", sum := "dd05535985bd1e20ef24b61418af5c9575b15b05117972cec91a00cfc6a84f6f", func := "wormtub/wormtublaw11.ExciseAdds", spec := "exciseAdds", unfollowed := true, recurses := true, apart := false, narrowed := true }
def ExciseAddsUptoSaid : Prop := exciseAddsUptoRow.holds Try.pinned (OpenSpec.upto exciseAddsSpec)

/-- 'wormtublaw11.ExciseKinder', WHERE WHAT IT READS IS OF BULK AT MOST 1048576: true; the input reads as it did. -/
def exciseKinderUptoRow : OpenClaim := { program := "ytadpjmaaokkhjaa", sum := "dd05535985bd1e20ef24b61418af5c9575b15b05117972cec91a00cfc6a84f6f", func := "wormtub/wormtublaw11.ExciseKinder", spec := "exciseKinder", unfollowed := true, recurses := true, apart := false, narrowed := true }
def ExciseKinderUptoSaid : Prop := exciseKinderUptoRow.holds Try.pinned (OpenSpec.upto exciseKinderSpec)

/-- 'wormtublaw11.ExciseArrives', WHERE WHAT IT READS IS OF BULK AT MOST 1048576: true; the input reads as it did. -/
def exciseArrivesUptoRow : OpenClaim := { program := "ytadpjmaaokkhjaa", sum := "dd05535985bd1e20ef24b61418af5c9575b15b05117972cec91a00cfc6a84f6f", func := "wormtub/wormtublaw11.ExciseArrives", spec := "exciseArrives", unfollowed := true, recurses := true, apart := false, narrowed := true }
def ExciseArrivesUptoSaid : Prop := exciseArrivesUptoRow.holds Try.pinned (OpenSpec.upto exciseArrivesSpec)

/-- 'wormtublaw11.ExciseDays', WHERE WHAT IT READS IS OF BULK AT MOST 1048576: true; the input reads as it did. -/
def exciseDaysUptoRow : OpenClaim := { program := "ytadpjmaaokkhjaa", sum := "dd05535985bd1e20ef24b61418af5c9575b15b05117972cec91a00cfc6a84f6f", func := "wormtub/wormtublaw11.ExciseDays", spec := "exciseDays", unfollowed := true, recurses := true, apart := false, narrowed := true }
def ExciseDaysUptoSaid : Prop := exciseDaysUptoRow.holds Try.pinned (OpenSpec.upto exciseDaysSpec)

end Rows
end Go.Proofs.Ytadpjmaaokkhjaa
