/-
  No cell of these rows narrows 'for every input' (looked for: loops, veiled, ifaces, maps, wideKeys, modest, calm, conditions, laid).
  DERIVED. THE GIVEN ROWS OF THIS SEAT. 4 by the template 'for every input the law returns true; each argument reads behind the call as it read before'; 0 by the template 'total and deterministic' (their statements: YtckmmcklhdfjfaaTotals.lean).
  GIVEN WITH THE SEED: the statements are not yours to turn. If you find one false, say at which input.
  Laid BY PROGRAM, IN A SANDBOX (cutbox-rows.mjs): the forced cells as the released guide's own fill.sh prints them over the translation 0661e99d68aee1d0… (all of the seat's roots in one cut). By AI agents, Wed Nov 11 2026. No macro, syntax, notation, axiom, sorry.
-/
import Derived.Test.YtckmmcklhdfjfaaChecked
import GoSem.Claim
import GoSem.ClaimJoined
import GoSem.ClaimMapViews
import Derived.JoinedTies
import Derived.KernelRfl
namespace Go.Proofs.Ytckmmcklhdfjfaa
/- THE CELL 'sum', in the pinned program and in every row, IS THE sha256 OF THE DUMP (.gsa) THAT YtckmmcklhdfjfaaProg.lean LOADS. Nothing in Lean hashes anything: it is a label: what it is worth is what the hold of that sum in a sandbox is worth. -/
noncomputable def Try.pinned : Pinned := { name := "ytckmmcklhdfjfaa", sum := "0661e99d68aee1d0363c336abc12f982adfd52d5ba13eaef2f88987920281e21", checked := Try.checked }
namespace Rows
def none {H : Type} : Left H := { results := [], args := [] }

/-- 'buttresslaw18.GaugeReckons': WHATEVER THE INPUT: true; the input reads as it did. -/
def gaugeReckonsSpec : ChangeSpec := { name := "gaugeReckons", fn := fun _ => fun
  | [d1, d2, d3] => { results := [.lit (.bool true)], args := [d1, d2, d3] }
  | _ => none }
def gaugeReckonsRow : OpenClaim := { program := "ytckmmcklhdfjfaa", sum := "0661e99d68aee1d0363c336abc12f982adfd52d5ba13eaef2f88987920281e21", func := "buttress/buttresslaw18.GaugeReckons", spec := "gaugeReckons", inPlace := ["math.Float64bits", "math.Float64frombits"], unfollowed := true, recurses := true, apart := false }
def GaugeReckonsSaid : Prop := gaugeReckonsRow.holds Try.pinned (OpenSpec.ofChange gaugeReckonsSpec)

/-- ITS FALSE NEIGHBOUR: 'it returns false'. Refute it at one input. -/
def gaugeReckonsWrong : ChangeSpec := { name := "gaugeReckons", fn := fun _ => fun
  | [d1, d2, d3] => { results := [.lit (.bool false)], args := [d1, d2, d3] }
  | _ => none }
def GaugeReckonsWrongFalsely : Prop := gaugeReckonsRow.holds Try.pinned (OpenSpec.ofChange gaugeReckonsWrong)

/-- 'buttresslaw18.GaugeAll': WHATEVER THE INPUT: true; the input reads as it did. -/
def gaugeAllSpec : ChangeSpec := { name := "gaugeAll", fn := fun _ => fun
  | [d] => { results := [.lit (.bool true)], args := [d] }
  | _ => none }
def gaugeAllRow : OpenClaim := { program := "ytckmmcklhdfjfaa", sum := "0661e99d68aee1d0363c336abc12f982adfd52d5ba13eaef2f88987920281e21", func := "buttress/buttresslaw18.GaugeAll", spec := "gaugeAll", inPlace := ["math.Float64bits", "math.Float64frombits"], unfollowed := true, recurses := true, apart := false }
def GaugeAllSaid : Prop := gaugeAllRow.holds Try.pinned (OpenSpec.ofChange gaugeAllSpec)

/-- ITS FALSE NEIGHBOUR: 'it returns false'. Refute it at one input. -/
def gaugeAllWrong : ChangeSpec := { name := "gaugeAll", fn := fun _ => fun
  | [d] => { results := [.lit (.bool false)], args := [d] }
  | _ => none }
def GaugeAllWrongFalsely : Prop := gaugeAllRow.holds Try.pinned (OpenSpec.ofChange gaugeAllWrong)

/-- 'buttresslaw18.GaugeTwice': WHATEVER THE INPUT: true; the input reads as it did. -/
def gaugeTwiceSpec : ChangeSpec := { name := "gaugeTwice", fn := fun _ => fun
  | [d1, d2] => { results := [.lit (.bool true)], args := [d1, d2] }
  | _ => none }
def gaugeTwiceRow : OpenClaim := { program := "ytckmmcklhdfjfaa", sum := "0661e99d68aee1d0363c336abc12f982adfd52d5ba13eaef2f88987920281e21", func := "buttress/buttresslaw18.GaugeTwice", spec := "gaugeTwice", inPlace := ["math.Float64bits", "math.Float64frombits"], unfollowed := true, recurses := true, apart := false }
def GaugeTwiceSaid : Prop := gaugeTwiceRow.holds Try.pinned (OpenSpec.ofChange gaugeTwiceSpec)

/-- ITS FALSE NEIGHBOUR: 'it returns false'. Refute it at one input. -/
def gaugeTwiceWrong : ChangeSpec := { name := "gaugeTwice", fn := fun _ => fun
  | [d1, d2] => { results := [.lit (.bool false)], args := [d1, d2] }
  | _ => none }
def GaugeTwiceWrongFalsely : Prop := gaugeTwiceRow.holds Try.pinned (OpenSpec.ofChange gaugeTwiceWrong)

/-- 'buttresslaw18.GaugeLoads': WHATEVER THE INPUT: true; the input reads as it did. -/
def gaugeLoadsSpec : ChangeSpec := { name := "gaugeLoads", fn := fun _ => fun
  | [d1, d2, d3] => { results := [.lit (.bool true)], args := [d1, d2, d3] }
  | _ => none }
def gaugeLoadsRow : OpenClaim := { program := "ytckmmcklhdfjfaa", sum := "0661e99d68aee1d0363c336abc12f982adfd52d5ba13eaef2f88987920281e21", func := "buttress/buttresslaw18.GaugeLoads", spec := "gaugeLoads", inPlace := ["math.Float64bits", "math.Float64frombits"], unfollowed := true, recurses := true, apart := false }
def GaugeLoadsSaid : Prop := gaugeLoadsRow.holds Try.pinned (OpenSpec.ofChange gaugeLoadsSpec)

/-- ITS FALSE NEIGHBOUR: 'it returns false'. Refute it at one input. -/
def gaugeLoadsWrong : ChangeSpec := { name := "gaugeLoads", fn := fun _ => fun
  | [d1, d2, d3] => { results := [.lit (.bool false)], args := [d1, d2, d3] }
  | _ => none }
def GaugeLoadsWrongFalsely : Prop := gaugeLoadsRow.holds Try.pinned (OpenSpec.ofChange gaugeLoadsWrong)

/- THE SECOND FORM. 'bulk': how many values and letters a reading holds, each counted each time it is reached (what is shared counts as often as it is met; a slice's spare places count too). A statement '..UptoSaid' is the law's where the arguments, and the package variables that the reading takes, are together of bulk at most 1048576: NARROWER than '..Said'. Prove '..Said' where nothing that the law and all that it calls make is longer than what came in: it says more and counts as full. Else prove '..UptoSaid'. A law counts once. -/
mutual
def uptoBulk {H : Type} : DataW H → Nat
  | .lit (.string bytes) => bytes.length + 1
  | .lit _ => 1
  | .nil => 1
  | .ptr d => uptoBulk d + 1
  | .slice elems spare => uptoBulkAll elems + uptoBulkAll spare + 1
  | .agg parts => uptoBulkAll parts + 1
  | .iface _ d => uptoBulk d + 1
  | .map entries => uptoBulkEntries entries + 1
  | .held _ => 1
def uptoBulkAll {H : Type} : List (DataW H) → Nat
  | [] => 0
  | d :: r => uptoBulk d + uptoBulkAll r
def uptoBulkEntries {H : Type} : List (Lit × DataW H) → Nat
  | [] => 0
  | x :: r => uptoBulkEntry x + uptoBulkEntries r
def uptoBulkEntry {H : Type} : Lit × DataW H → Nat
  | (.string bytes, d) => bytes.length + uptoBulk d + 1
  | (_, d) => uptoBulk d + 1
 end
def uptoSmall : (H : Type) → List (DataW H) → Bool := fun _ ds => decide (uptoBulkAll ds ≤ 1048576)
def OpenSpec.upto (s : _root_.Go.ChangeSpec) : _root_.Go.OpenSpec := { _root_.Go.OpenSpec.ofChange s with cond := some uptoSmall }

/-- 'buttresslaw18.GaugeReckons', WHERE WHAT IT READS IS OF BULK AT MOST 1048576: true; the input reads as it did. -/
def gaugeReckonsUptoRow : OpenClaim := { program := "ytckmmcklhdfjfaa", sum := "0661e99d68aee1d0363c336abc12f982adfd52d5ba13eaef2f88987920281e21", func := "buttress/buttresslaw18.GaugeReckons", spec := "gaugeReckons", inPlace := ["math.Float64bits", "math.Float64frombits"], unfollowed := true, recurses := true, apart := false, narrowed := true }
def GaugeReckonsUptoSaid : Prop := gaugeReckonsUptoRow.holds Try.pinned (OpenSpec.upto gaugeReckonsSpec)

/-- 'buttresslaw18.GaugeAll', WHERE WHAT IT READS IS OF BULK AT MOST 1048576: true; the input reads as it did. -/
def gaugeAllUptoRow : OpenClaim := { program := "ytckmmcklhdfjfaa", sum := "0661e99d68aee1d0363c336abc12f982adfd52d5ba13eaef2f88987920281e21", func := "buttress/buttresslaw18.GaugeAll", spec := "gaugeAll", inPlace := ["math.Float64bits", "math.Float64frombits"], unfollowed := true, recurses := true, apart := false, narrowed := true }
def GaugeAllUptoSaid : Prop := gaugeAllUptoRow.holds Try.pinned (OpenSpec.upto gaugeAllSpec)

/-- 'buttresslaw18.GaugeTwice', WHERE WHAT IT READS IS OF BULK AT MOST 1048576: true; the input reads as it did. -/
def gaugeTwiceUptoRow : OpenClaim := { program := "ytckmmcklhdfjfaa", sum := "0661e99d68aee1d0363c336abc12f982adfd52d5ba13eaef2f88987920281e21", func := "buttress/buttresslaw18.GaugeTwice", spec := "gaugeTwice", inPlace := ["math.Float64bits", "math.Float64frombits"], unfollowed := true, recurses := true, apart := false, narrowed := true }
def GaugeTwiceUptoSaid : Prop := gaugeTwiceUptoRow.holds Try.pinned (OpenSpec.upto gaugeTwiceSpec)

/-- 'buttresslaw18.GaugeLoads', WHERE WHAT IT READS IS OF BULK AT MOST 1048576: true; the input reads as it did. -/
def gaugeLoadsUptoRow : OpenClaim := { program := "ytckmmcklhdfjfaa", sum := "0661e99d68aee1d0363c336abc12f982adfd52d5ba13eaef2f88987920281e21", func := "buttress/buttresslaw18.GaugeLoads", spec := "gaugeLoads", inPlace := ["math.Float64bits", "math.Float64frombits"], unfollowed := true, recurses := true, apart := false, narrowed := true }
def GaugeLoadsUptoSaid : Prop := gaugeLoadsUptoRow.holds Try.pinned (OpenSpec.upto gaugeLoadsSpec)

end Rows
end Go.Proofs.Ytckmmcklhdfjfaa
