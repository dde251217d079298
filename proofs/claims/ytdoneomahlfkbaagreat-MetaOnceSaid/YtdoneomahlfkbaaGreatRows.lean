/-
  No cell of these rows narrows 'for every input' (looked for: loops, veiled, ifaces, maps, wideKeys, modest, calm, conditions, laid).
  DERIVED. THE GIVEN ROWS OF THIS SEAT. 4 by the template 'for every input the law returns true; each argument reads behind the call as it read before'; 0 by the template 'total and deterministic' (their statements: YtdoneomahlfkbaaGreatTotals.lean).
  GIVEN WITH THE SEED: the statements are not yours to turn. If you find one false, say at which input.
  Laid BY PROGRAM, IN A SANDBOX (cutbox-rows.mjs): the forced cells as the released guide's own fill.sh prints them over the translation 0454d47489eae101… (all of the seat's roots in one cut). By AI agents, Wed Nov 11 2026. No macro, syntax, notation, axiom, sorry.
-/
import Derived.Test.YtdoneomahlfkbaaGreatChecked
import GoSem.Claim
import GoSem.ClaimJoined
import GoSem.ClaimMapViews
import Derived.JoinedTies
import Derived.KernelRfl
namespace Go.Proofs.YtdoneomahlfkbaaGreat
/- THE CELL 'sum', in the pinned program and in every row, IS THE sha256 OF THE DUMP (.gsa) THAT YtdoneomahlfkbaaGreatProg.lean LOADS. Nothing in Lean hashes anything: it is a label: what it is worth is what the hold of that sum in a sandbox is worth. -/
noncomputable def Tryz.pinned : Pinned := { name := "ytdoneomahlfkbaagreat", sum := "0454d47489eae101081baa8d4920999d8eec736dfba8bb1972f5cfe0cf597260", checked := Tryz.checked }
namespace Rows
def none {H : Type} : Left H := { results := [], args := [] }

/-- 'buttresslaw15.MetaCounts': WHATEVER THE INPUT: true; the input reads as it did. -/
def metaCountsSpec : ChangeSpec := { name := "metaCounts", fn := fun _ => fun
  | [d] => { results := [.lit (.bool true)], args := [d] }
  | _ => none }
def metaCountsRow : OpenClaim := { program := "ytdoneomahlfkbaagreat", sum := "0454d47489eae101081baa8d4920999d8eec736dfba8bb1972f5cfe0cf597260", func := "buttress/buttresslaw15.MetaCounts", spec := "metaCounts", inPlace := ["slices.overlaps[buttress/api.Waste]", "slices.overlaps[buttress/api.Session]", "slices.overlaps[buttress/api.Object]", "slices.overlaps[int]"], unfollowed := true, recurses := true, apart := false }
def MetaCountsSaid : Prop := metaCountsRow.holds Tryz.pinned (OpenSpec.ofChange metaCountsSpec)

/-- ITS FALSE NEIGHBOUR: 'it returns false'. Refute it at one input. -/
def metaCountsWrong : ChangeSpec := { name := "metaCounts", fn := fun _ => fun
  | [d] => { results := [.lit (.bool false)], args := [d] }
  | _ => none }
def MetaCountsWrongFalsely : Prop := metaCountsRow.holds Tryz.pinned (OpenSpec.ofChange metaCountsWrong)

/-- 'buttresslaw15.MetaHolds': WHATEVER THE INPUT: true; the input reads as it did. -/
def metaHoldsSpec : ChangeSpec := { name := "metaHolds", fn := fun _ => fun
  | [d] => { results := [.lit (.bool true)], args := [d] }
  | _ => none }
def metaHoldsRow : OpenClaim := { program := "ytdoneomahlfkbaagreat", sum := "0454d47489eae101081baa8d4920999d8eec736dfba8bb1972f5cfe0cf597260", func := "buttress/buttresslaw15.MetaHolds", spec := "metaHolds", inPlace := ["slices.overlaps[buttress/api.Waste]", "slices.overlaps[buttress/api.Session]", "slices.overlaps[buttress/api.Object]", "slices.overlaps[int]"], unfollowed := true, recurses := true, apart := false }
def MetaHoldsSaid : Prop := metaHoldsRow.holds Tryz.pinned (OpenSpec.ofChange metaHoldsSpec)

/-- ITS FALSE NEIGHBOUR: 'it returns false'. Refute it at one input. -/
def metaHoldsWrong : ChangeSpec := { name := "metaHolds", fn := fun _ => fun
  | [d] => { results := [.lit (.bool false)], args := [d] }
  | _ => none }
def MetaHoldsWrongFalsely : Prop := metaHoldsRow.holds Tryz.pinned (OpenSpec.ofChange metaHoldsWrong)

/-- 'buttresslaw15.MetaOnce': WHATEVER THE INPUT: true; the input reads as it did. -/
def metaOnceSpec : ChangeSpec := { name := "metaOnce", fn := fun _ => fun
  | [d1, d2, d3] => { results := [.lit (.bool true)], args := [d1, d2, d3] }
  | _ => none }
def metaOnceRow : OpenClaim := { program := "ytdoneomahlfkbaagreat", sum := "0454d47489eae101081baa8d4920999d8eec736dfba8bb1972f5cfe0cf597260", func := "buttress/buttresslaw15.MetaOnce", spec := "metaOnce", inPlace := ["slices.overlaps[buttress/api.Waste]", "slices.overlaps[buttress/api.Session]", "slices.overlaps[buttress/api.Object]", "slices.overlaps[int]"], unfollowed := true, recurses := true, apart := false }
def MetaOnceSaid : Prop := metaOnceRow.holds Tryz.pinned (OpenSpec.ofChange metaOnceSpec)

/-- ITS FALSE NEIGHBOUR: 'it returns false'. Refute it at one input. -/
def metaOnceWrong : ChangeSpec := { name := "metaOnce", fn := fun _ => fun
  | [d1, d2, d3] => { results := [.lit (.bool false)], args := [d1, d2, d3] }
  | _ => none }
def MetaOnceWrongFalsely : Prop := metaOnceRow.holds Tryz.pinned (OpenSpec.ofChange metaOnceWrong)

/-- 'buttresslaw15.MetaCuts': WHATEVER THE INPUT: true; the input reads as it did. -/
def metaCutsSpec : ChangeSpec := { name := "metaCuts", fn := fun _ => fun
  | [d] => { results := [.lit (.bool true)], args := [d] }
  | _ => none }
def metaCutsRow : OpenClaim := { program := "ytdoneomahlfkbaagreat", sum := "0454d47489eae101081baa8d4920999d8eec736dfba8bb1972f5cfe0cf597260", func := "buttress/buttresslaw15.MetaCuts", spec := "metaCuts", inPlace := ["slices.overlaps[buttress/api.Waste]", "slices.overlaps[buttress/api.Session]", "slices.overlaps[buttress/api.Object]", "slices.overlaps[int]"], unfollowed := true, recurses := true, apart := false }
def MetaCutsSaid : Prop := metaCutsRow.holds Tryz.pinned (OpenSpec.ofChange metaCutsSpec)

/-- ITS FALSE NEIGHBOUR: 'it returns false'. Refute it at one input. -/
def metaCutsWrong : ChangeSpec := { name := "metaCuts", fn := fun _ => fun
  | [d] => { results := [.lit (.bool false)], args := [d] }
  | _ => none }
def MetaCutsWrongFalsely : Prop := metaCutsRow.holds Tryz.pinned (OpenSpec.ofChange metaCutsWrong)

/- THE SECOND FORM. 'bulk': how many values and letters a reading holds, each counted each time it is reached (what is shared counts as often as it is met; a slice's spare places count too). A statement '..UptoSaid' is the law's where the arguments, and the package variables that the reading takes, are together of bulk at most 1048576: NARROWER than '..Said'. Prove '..Said' where nothing that the law and all that it calls make is longer than what came in: it says more and counts as full. Else prove '..UptoSaid'. A law counts once. -/
mutual
def uptoBulk {H : Type} : DataW H → Nat
  | .lit (.string bytes) => bytes.length + 1
  | .lit _ => 1
  | .nil => 1
  | .ptr d => uptoBulk d + 1
  | .slice elems spare => uptoBulkAll elems + uptoBulkAll spare + 1
  | .agg parts => uptoBulkAll parts + 1
  | .iface _ d => uptoBulk d + 1
  | .map entries => uptoBulkEntries entries + 1
  | .held _ => 1
def uptoBulkAll {H : Type} : List (DataW H) → Nat
  | [] => 0
  | d :: r => uptoBulk d + uptoBulkAll r
def uptoBulkEntries {H : Type} : List (Lit × DataW H) → Nat
  | [] => 0
  | x :: r => uptoBulkEntry x + uptoBulkEntries r
def uptoBulkEntry {H : Type} : Lit × DataW H → Nat
  | (.string bytes, d) => bytes.length + uptoBulk d + 1
  | (_, d) => uptoBulk d + 1
 end
def uptoSmall : (H : Type) → List (DataW H) → Bool := fun _ ds => decide (uptoBulkAll ds ≤ 1048576)
def OpenSpec.upto (s : _root_.Go.ChangeSpec) : _root_.Go.OpenSpec := { _root_.Go.OpenSpec.ofChange s with cond := some uptoSmall }

/-- 'buttresslaw15.MetaCounts', WHERE WHAT IT READS IS OF BULK AT MOST 1048576: true; the input reads as it did. -/
def metaCountsUptoRow : OpenClaim := { program := "ytdoneomahlfkbaagreat", sum := "0454d47489eae101081baa8d4920999d8eec736dfba8bb1972f5cfe0cf597260", func := "buttress/buttresslaw15.MetaCounts", spec := "metaCounts", inPlace := ["slices.overlaps[buttress/api.Waste]", "slices.overlaps[buttress/api.Session]", "slices.overlaps[buttress/api.Object]", "slices.overlaps[int]"], unfollowed := true, recurses := true, apart := false, narrowed := true }
def MetaCountsUptoSaid : Prop := metaCountsUptoRow.holds Tryz.pinned (OpenSpec.upto metaCountsSpec)

/-- 'buttresslaw15.MetaHolds', WHERE WHAT IT READS IS OF BULK AT MOST 1048576: true; the input reads as it did. -/
def metaHoldsUptoRow : OpenClaim := { program := "ytdoneomahlfkbaagreat", sum := "0454d47489eae101081baa8d4920999d8eec736dfba8bb1972f5cfe0cf597260", func := "buttress/buttresslaw15.MetaHolds", spec := "metaHolds", inPlace := ["slices.overlaps[buttress/api.Waste]", "slices.overlaps[buttress/api.Session]", "slices.overlaps[buttress/api.Object]", "slices.overlaps[int]"], unfollowed := true, recurses := true, apart := false, narrowed := true }
def MetaHoldsUptoSaid : Prop := metaHoldsUptoRow.holds Tryz.pinned (OpenSpec.upto metaHoldsSpec)

/-- 'buttresslaw15.MetaOnce', WHERE WHAT IT READS IS OF BULK AT MOST 1048576: true; the input reads as it did. -/
def metaOnceUptoRow : OpenClaim := { program := "ytdoneomahlfkbaagreat", sum := "0454d47489eae101081baa8d4920999d8eec736dfba8bb1972f5cfe0cf597260", func := "buttress/buttresslaw15.MetaOnce", spec := "metaOnce", inPlace := ["slices.overlaps[buttress/api.Waste]", "slices.overlaps[buttress/api.Session]", "slices.overlaps[buttress/api.Object]", "slices.overlaps[int]"], unfollowed := true, recurses := true, apart := false, narrowed := true }
def MetaOnceUptoSaid : Prop := metaOnceUptoRow.holds Tryz.pinned (OpenSpec.upto metaOnceSpec)

/-- 'buttresslaw15.MetaCuts', WHERE WHAT IT READS IS OF BULK AT MOST 1048576: true; the input reads as it did. -/
def metaCutsUptoRow : OpenClaim := { program := "ytdoneomahlfkbaagreat", sum := "0454d47489eae101081baa8d4920999d8eec736dfba8bb1972f5cfe0cf597260", func := "buttress/buttresslaw15.MetaCuts", spec := "metaCuts", inPlace := ["slices.overlaps[buttress/api.Waste]", "slices.overlaps[buttress/api.Session]", "slices.overlaps[buttress/api.Object]", "slices.overlaps[int]"], unfollowed := true, recurses := true, apart := false, narrowed := true }
def MetaCutsUptoSaid : Prop := metaCutsUptoRow.holds Tryz.pinned (OpenSpec.upto metaCutsSpec)

end Rows
end Go.Proofs.YtdoneomahlfkbaaGreat
