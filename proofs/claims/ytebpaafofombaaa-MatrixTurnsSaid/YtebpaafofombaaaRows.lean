/-
  No cell of these rows narrows 'for every input' (looked for: loops, veiled, ifaces, maps, wideKeys, modest, calm, conditions, laid).
  DERIVED. THE GIVEN ROWS OF THIS SEAT. 6 by the template 'for every input the law returns true; each argument reads behind the call as it read before'; 0 by the template 'total and deterministic' (their statements: YtebpaafofombaaaTotals.lean).
  GIVEN WITH THE SEED: the statements are not yours to turn. If you find one false, say at which input.
  Laid BY PROGRAM, IN A SANDBOX (cutbox-rows.mjs): the forced cells as the released guide's own fill.sh prints them over the translation 278d8d723e2fbaf5… (all of the seat's roots in one cut). By AI agents, Wed Nov 11 2026. No macro, syntax, notation, axiom, sorry.
-/
import Derived.Test.YtebpaafofombaaaChecked
import GoSem.Claim
import GoSem.ClaimJoined
import GoSem.ClaimMapViews
import Derived.JoinedTies
import Derived.KernelRfl
namespace Go.Proofs.Ytebpaafofombaaa
/- THE CELL 'sum', in the pinned program and in every row, IS THE sha256 OF THE DUMP (.gsa) THAT YtebpaafofombaaaProg.lean LOADS. Nothing in Lean hashes anything: it is a label: what it is worth is what the hold of that sum in a sandbox is worth. -/
noncomputable def Try.pinned : Pinned := { name := "ytebpaafofombaaa", sum := "278d8d723e2fbaf5b854af5c3b9a7ba5f0f889da42fa3b4a3272349d46ee7469", checked := Try.checked }
namespace Rows
def none {H : Type} : Left H := { results := [], args := [] }

/-- 'buttresslaw02.MatrixInverts': WHATEVER THE INPUT: true; the input reads as it did. -/
def matrixInvertsSpec : ChangeSpec := { name := "matrixInverts", fn := fun _ => fun
  | [d1, d2] => { results := [.lit (.bool true)], args := [d1, d2] }
  | _ => none }
def matrixInvertsRow : OpenClaim := { program := "ytebpaafofombaaa", sum := "278d8d723e2fbaf5b854af5c3b9a7ba5f0f889da42fa3b4a3272349d46ee7469", func := "buttress/buttresslaw02.MatrixInverts", spec := "matrixInverts", apart := false }
def MatrixInvertsSaid : Prop := matrixInvertsRow.holds Try.pinned (OpenSpec.ofChange matrixInvertsSpec)

/-- ITS FALSE NEIGHBOUR: 'it returns false'. Refute it at one input. -/
def matrixInvertsWrong : ChangeSpec := { name := "matrixInverts", fn := fun _ => fun
  | [d1, d2] => { results := [.lit (.bool false)], args := [d1, d2] }
  | _ => none }
def MatrixInvertsWrongFalsely : Prop := matrixInvertsRow.holds Try.pinned (OpenSpec.ofChange matrixInvertsWrong)

/-- 'buttresslaw02.MatrixMakes': WHATEVER THE INPUT: true; the input reads as it did. -/
def matrixMakesSpec : ChangeSpec := { name := "matrixMakes", fn := fun _ => fun
  | [d1, d2, d3, d4] => { results := [.lit (.bool true)], args := [d1, d2, d3, d4] }
  | _ => none }
def matrixMakesRow : OpenClaim := { program := "ytebpaafofombaaa", sum := "278d8d723e2fbaf5b854af5c3b9a7ba5f0f889da42fa3b4a3272349d46ee7469", func := "buttress/buttresslaw02.MatrixMakes", spec := "matrixMakes", apart := false }
def MatrixMakesSaid : Prop := matrixMakesRow.holds Try.pinned (OpenSpec.ofChange matrixMakesSpec)

/-- ITS FALSE NEIGHBOUR: 'it returns false'. Refute it at one input. -/
def matrixMakesWrong : ChangeSpec := { name := "matrixMakes", fn := fun _ => fun
  | [d1, d2, d3, d4] => { results := [.lit (.bool false)], args := [d1, d2, d3, d4] }
  | _ => none }
def MatrixMakesWrongFalsely : Prop := matrixMakesRow.holds Try.pinned (OpenSpec.ofChange matrixMakesWrong)

/-- 'buttresslaw02.MatrixSolves': WHATEVER THE INPUT: true; the input reads as it did. -/
def matrixSolvesSpec : ChangeSpec := { name := "matrixSolves", fn := fun _ => fun
  | [d1, d2, d3] => { results := [.lit (.bool true)], args := [d1, d2, d3] }
  | _ => none }
def matrixSolvesRow : OpenClaim := { program := "ytebpaafofombaaa", sum := "278d8d723e2fbaf5b854af5c3b9a7ba5f0f889da42fa3b4a3272349d46ee7469", func := "buttress/buttresslaw02.MatrixSolves", spec := "matrixSolves", apart := false }
def MatrixSolvesSaid : Prop := matrixSolvesRow.holds Try.pinned (OpenSpec.ofChange matrixSolvesSpec)

/-- ITS FALSE NEIGHBOUR: 'it returns false'. Refute it at one input. -/
def matrixSolvesWrong : ChangeSpec := { name := "matrixSolves", fn := fun _ => fun
  | [d1, d2, d3] => { results := [.lit (.bool false)], args := [d1, d2, d3] }
  | _ => none }
def MatrixSolvesWrongFalsely : Prop := matrixSolvesRow.holds Try.pinned (OpenSpec.ofChange matrixSolvesWrong)

/-- 'buttresslaw02.MatrixAssociates': WHATEVER THE INPUT: true; the input reads as it did. -/
def matrixAssociatesSpec : ChangeSpec := { name := "matrixAssociates", fn := fun _ => fun
  | [d1, d2, d3] => { results := [.lit (.bool true)], args := [d1, d2, d3] }
  | _ => none }
def matrixAssociatesRow : OpenClaim := { program := "ytebpaafofombaaa", sum := "278d8d723e2fbaf5b854af5c3b9a7ba5f0f889da42fa3b4a3272349d46ee7469", func := "buttress/buttresslaw02.MatrixAssociates", spec := "matrixAssociates", apart := false }
def MatrixAssociatesSaid : Prop := matrixAssociatesRow.holds Try.pinned (OpenSpec.ofChange matrixAssociatesSpec)

/-- ITS FALSE NEIGHBOUR: 'it returns false'. Refute it at one input. -/
def matrixAssociatesWrong : ChangeSpec := { name := "matrixAssociates", fn := fun _ => fun
  | [d1, d2, d3] => { results := [.lit (.bool false)], args := [d1, d2, d3] }
  | _ => none }
def MatrixAssociatesWrongFalsely : Prop := matrixAssociatesRow.holds Try.pinned (OpenSpec.ofChange matrixAssociatesWrong)

/-- 'buttresslaw02.MatrixGenerates': WHATEVER THE INPUT: true; the input reads as it did. -/
def matrixGeneratesSpec : ChangeSpec := { name := "matrixGenerates", fn := fun _ => fun
  | [d1, d2, d3] => { results := [.lit (.bool true)], args := [d1, d2, d3] }
  | _ => none }
def matrixGeneratesRow : OpenClaim := { program := "ytebpaafofombaaa", sum := "278d8d723e2fbaf5b854af5c3b9a7ba5f0f889da42fa3b4a3272349d46ee7469", func := "buttress/buttresslaw02.MatrixGenerates", spec := "matrixGenerates", apart := false }
def MatrixGeneratesSaid : Prop := matrixGeneratesRow.holds Try.pinned (OpenSpec.ofChange matrixGeneratesSpec)

/-- ITS FALSE NEIGHBOUR: 'it returns false'. Refute it at one input. -/
def matrixGeneratesWrong : ChangeSpec := { name := "matrixGenerates", fn := fun _ => fun
  | [d1, d2, d3] => { results := [.lit (.bool false)], args := [d1, d2, d3] }
  | _ => none }
def MatrixGeneratesWrongFalsely : Prop := matrixGeneratesRow.holds Try.pinned (OpenSpec.ofChange matrixGeneratesWrong)

/-- 'buttresslaw02.MatrixTurns': WHATEVER THE INPUT: true; the input reads as it did. -/
def matrixTurnsSpec : ChangeSpec := { name := "matrixTurns", fn := fun _ => fun
  | [d1, d2, d3] => { results := [.lit (.bool true)], args := [d1, d2, d3] }
  | _ => none }
def matrixTurnsRow : OpenClaim := { program := "ytebpaafofombaaa", sum := "278d8d723e2fbaf5b854af5c3b9a7ba5f0f889da42fa3b4a3272349d46ee7469", func := "buttress/buttresslaw02.MatrixTurns", spec := "matrixTurns", apart := false }
def MatrixTurnsSaid : Prop := matrixTurnsRow.holds Try.pinned (OpenSpec.ofChange matrixTurnsSpec)

/-- ITS FALSE NEIGHBOUR: 'it returns false'. Refute it at one input. -/
def matrixTurnsWrong : ChangeSpec := { name := "matrixTurns", fn := fun _ => fun
  | [d1, d2, d3] => { results := [.lit (.bool false)], args := [d1, d2, d3] }
  | _ => none }
def MatrixTurnsWrongFalsely : Prop := matrixTurnsRow.holds Try.pinned (OpenSpec.ofChange matrixTurnsWrong)

/- THE SECOND FORM. 'bulk': how many values and letters a reading holds, each counted each time it is reached (what is shared counts as often as it is met; a slice's spare places count too). A statement '..UptoSaid' is the law's where the arguments, and the package variables that the reading takes, are together of bulk at most 1048576: NARROWER than '..Said'. Prove '..Said' where nothing that the law and all that it calls make is longer than what came in: it says more and counts as full. Else prove '..UptoSaid'. A law counts once. -/
mutual
def uptoBulk {H : Type} : DataW H → Nat
  | .lit (.string bytes) => bytes.length + 1
  | .lit _ => 1
  | .nil => 1
  | .ptr d => uptoBulk d + 1
  | .slice elems spare => uptoBulkAll elems + uptoBulkAll spare + 1
  | .agg parts => uptoBulkAll parts + 1
  | .iface _ d => uptoBulk d + 1
  | .map entries => uptoBulkEntries entries + 1
  | .held _ => 1
def uptoBulkAll {H : Type} : List (DataW H) → Nat
  | [] => 0
  | d :: r => uptoBulk d + uptoBulkAll r
def uptoBulkEntries {H : Type} : List (Lit × DataW H) → Nat
  | [] => 0
  | x :: r => uptoBulkEntry x + uptoBulkEntries r
def uptoBulkEntry {H : Type} : Lit × DataW H → Nat
  | (.string bytes, d) => bytes.length + uptoBulk d + 1
  | (_, d) => uptoBulk d + 1
 end
def uptoSmall : (H : Type) → List (DataW H) → Bool := fun _ ds => decide (uptoBulkAll ds ≤ 1048576)
def OpenSpec.upto (s : _root_.Go.ChangeSpec) : _root_.Go.OpenSpec := { _root_.Go.OpenSpec.ofChange s with cond := some uptoSmall }

/-- 'buttresslaw02.MatrixInverts', WHERE WHAT IT READS IS OF BULK AT MOST 1048576: true; the input reads as it did. -/
def matrixInvertsUptoRow : OpenClaim := { program := "ytebpaafofombaaa", sum := "278d8d723e2fbaf5b854af5c3b9a7ba5f0f889da42fa3b4a3272349d46ee7469", func := "buttress/buttresslaw02.MatrixInverts", spec := "matrixInverts", apart := false, narrowed := true }
def MatrixInvertsUptoSaid : Prop := matrixInvertsUptoRow.holds Try.pinned (OpenSpec.upto matrixInvertsSpec)

/-- 'buttresslaw02.MatrixMakes', WHERE WHAT IT READS IS OF BULK AT MOST 1048576: true; the input reads as it did. -/
def matrixMakesUptoRow : OpenClaim := { program := "ytebpaafofombaaa", sum := "278d8d723e2fbaf5b854af5c3b9a7ba5f0f889da42fa3b4a3272349d46ee7469", func := "buttress/buttresslaw02.MatrixMakes", spec := "matrixMakes", apart := false, narrowed := true }
def MatrixMakesUptoSaid : Prop := matrixMakesUptoRow.holds Try.pinned (OpenSpec.upto matrixMakesSpec)

/-- 'buttresslaw02.MatrixSolves', WHERE WHAT IT READS IS OF BULK AT MOST 1048576: true; the input reads as it did. -/
def matrixSolvesUptoRow : OpenClaim := { program := "ytebpaafofombaaa", sum := "278d8d723e2fbaf5b854af5c3b9a7ba5f0f889da42fa3b4a3272349d46ee7469", func := "buttress/buttresslaw02.MatrixSolves", spec := "matrixSolves", apart := false, narrowed := true }
def MatrixSolvesUptoSaid : Prop := matrixSolvesUptoRow.holds Try.pinned (OpenSpec.upto matrixSolvesSpec)

/-- 'buttresslaw02.MatrixAssociates', WHERE WHAT IT READS IS OF BULK AT MOST 1048576: true; the input reads as it did. -/
def matrixAssociatesUptoRow : OpenClaim := { program := "ytebpaafofombaaa", sum := "278d8d723e2fbaf5b854af5c3b9a7ba5f0f889da42fa3b4a3272349d46ee7469", func := "buttress/buttresslaw02.MatrixAssociates", spec := "matrixAssociates", apart := false, narrowed := true }
def MatrixAssociatesUptoSaid : Prop := matrixAssociatesUptoRow.holds Try.pinned (OpenSpec.upto matrixAssociatesSpec)

/-- 'buttresslaw02.MatrixGenerates', WHERE WHAT IT READS IS OF BULK AT MOST 1048576: true; the input reads as it did. -/
def matrixGeneratesUptoRow : OpenClaim := { program := "ytebpaafofombaaa", sum := "278d8d723e2fbaf5b854af5c3b9a7ba5f0f889da42fa3b4a3272349d46ee7469", func := "buttress/buttresslaw02.MatrixGenerates", spec := "matrixGenerates", apart := false, narrowed := true }
def MatrixGeneratesUptoSaid : Prop := matrixGeneratesUptoRow.holds Try.pinned (OpenSpec.upto matrixGeneratesSpec)

/-- 'buttresslaw02.MatrixTurns', WHERE WHAT IT READS IS OF BULK AT MOST 1048576: true; the input reads as it did. -/
def matrixTurnsUptoRow : OpenClaim := { program := "ytebpaafofombaaa", sum := "278d8d723e2fbaf5b854af5c3b9a7ba5f0f889da42fa3b4a3272349d46ee7469", func := "buttress/buttresslaw02.MatrixTurns", spec := "matrixTurns", apart := false, narrowed := true }
def MatrixTurnsUptoSaid : Prop := matrixTurnsUptoRow.holds Try.pinned (OpenSpec.upto matrixTurnsSpec)

end Rows
end Go.Proofs.Ytebpaafofombaaa
