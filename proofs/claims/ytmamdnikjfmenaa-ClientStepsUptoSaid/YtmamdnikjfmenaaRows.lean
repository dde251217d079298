/-
  No cell of these rows narrows 'for every input' (looked for: loops, veiled, ifaces, maps, wideKeys, modest, calm, conditions, laid).
  DERIVED. THE GIVEN ROWS OF THIS SEAT. 5 by the template 'for every input the law returns true; each argument reads behind the call as it read before'; 0 by the template 'total and deterministic' (their statements: YtmamdnikjfmenaaTotals.lean).
  GIVEN WITH THE SEED: the statements are not yours to turn. If you find one false, say at which input.
  Laid BY PROGRAM, IN A SANDBOX (cutbox-rows.mjs): the forced cells as the released guide's own fill.sh prints them over the translation e857844f0e2e9b07… (all of the seat's roots in one cut). By AI agents, Wed Nov 11 2026. No macro, syntax, notation, axiom, sorry.
-/
import Derived.Test.YtmamdnikjfmenaaChecked
import GoSem.Claim
import GoSem.ClaimJoined
import GoSem.ClaimMapViews
import Derived.JoinedTies
import Derived.KernelRfl
namespace Go.Proofs.Ytmamdnikjfmenaa
/- THE CELL 'sum', in the pinned program and in every row, IS THE sha256 OF THE DUMP (.gsa) THAT YtmamdnikjfmenaaProg.lean LOADS. Nothing in Lean hashes anything: it is a label: what it is worth is what the hold of that sum in a sandbox is worth. -/
noncomputable def Try.pinned : Pinned := { name := "ytmamdnikjfmenaa", sum := "e857844f0e2e9b079d3cdfa43ea7d543221de9687975405dfa34964fde94fe68", checked := Try.checked }
namespace Rows
def none {H : Type} : Left H := { results := [], args := [] }

/-- 'buttresslaw23.ClientLate': WHATEVER THE INPUT: true; the input reads as it did. -/
def clientLateSpec : ChangeSpec := { name := "clientLate", fn := fun _ => fun
  | [d] => { results := [.lit (.bool true)], args := [d] }
  | _ => none }
def clientLateRow : OpenClaim := { program := "ytmamdnikjfmenaa", sum := "e857844f0e2e9b079d3cdfa43ea7d543221de9687975405dfa34964fde94fe68", func := "buttress/buttresslaw23.ClientLate", spec := "clientLate", unfollowed := true, recurses := true, apart := false }
def ClientLateSaid : Prop := clientLateRow.holds Try.pinned (OpenSpec.ofChange clientLateSpec)

/-- ITS FALSE NEIGHBOUR: 'it returns false'. Refute it at one input. -/
def clientLateWrong : ChangeSpec := { name := "clientLate", fn := fun _ => fun
  | [d] => { results := [.lit (.bool false)], args := [d] }
  | _ => none }
def ClientLateWrongFalsely : Prop := clientLateRow.holds Try.pinned (OpenSpec.ofChange clientLateWrong)

/-- 'buttresslaw23.ClientTurns': WHATEVER THE INPUT: true; the input reads as it did. -/
def clientTurnsSpec : ChangeSpec := { name := "clientTurns", fn := fun _ => fun
  | [d1, d2, d3] => { results := [.lit (.bool true)], args := [d1, d2, d3] }
  | _ => none }
def clientTurnsRow : OpenClaim := { program := "ytmamdnikjfmenaa", sum := "e857844f0e2e9b079d3cdfa43ea7d543221de9687975405dfa34964fde94fe68", func := "buttress/buttresslaw23.ClientTurns", spec := "clientTurns", unfollowed := true, recurses := true, apart := false }
def ClientTurnsSaid : Prop := clientTurnsRow.holds Try.pinned (OpenSpec.ofChange clientTurnsSpec)

/-- ITS FALSE NEIGHBOUR: 'it returns false'. Refute it at one input. -/
def clientTurnsWrong : ChangeSpec := { name := "clientTurns", fn := fun _ => fun
  | [d1, d2, d3] => { results := [.lit (.bool false)], args := [d1, d2, d3] }
  | _ => none }
def ClientTurnsWrongFalsely : Prop := clientTurnsRow.holds Try.pinned (OpenSpec.ofChange clientTurnsWrong)

/-- 'buttresslaw23.ClientBegins': WHATEVER THE INPUT: true; the input reads as it did. -/
def clientBeginsSpec : ChangeSpec := { name := "clientBegins", fn := fun _ => fun
  | [d1, d2, d3, d4, d5, d6, d7, d8] => { results := [.lit (.bool true)], args := [d1, d2, d3, d4, d5, d6, d7, d8] }
  | _ => none }
def clientBeginsRow : OpenClaim := { program := "ytmamdnikjfmenaa", sum := "e857844f0e2e9b079d3cdfa43ea7d543221de9687975405dfa34964fde94fe68", func := "buttress/buttresslaw23.ClientBegins", spec := "clientBegins", unfollowed := true, recurses := true, apart := false }
def ClientBeginsSaid : Prop := clientBeginsRow.holds Try.pinned (OpenSpec.ofChange clientBeginsSpec)

/-- ITS FALSE NEIGHBOUR: 'it returns false'. Refute it at one input. -/
def clientBeginsWrong : ChangeSpec := { name := "clientBegins", fn := fun _ => fun
  | [d1, d2, d3, d4, d5, d6, d7, d8] => { results := [.lit (.bool false)], args := [d1, d2, d3, d4, d5, d6, d7, d8] }
  | _ => none }
def ClientBeginsWrongFalsely : Prop := clientBeginsRow.holds Try.pinned (OpenSpec.ofChange clientBeginsWrong)

/-- 'buttresslaw23.ClientSteps': WHATEVER THE INPUT: true; the input reads as it did. -/
def clientStepsSpec : ChangeSpec := { name := "clientSteps", fn := fun _ => fun
  | [d1, d2] => { results := [.lit (.bool true)], args := [d1, d2] }
  | _ => none }
def clientStepsRow : OpenClaim := { program := "ytmamdnikjfmenaa", sum := "e857844f0e2e9b079d3cdfa43ea7d543221de9687975405dfa34964fde94fe68", func := "buttress/buttresslaw23.ClientSteps", spec := "clientSteps", unfollowed := true, recurses := true, apart := false }
def ClientStepsSaid : Prop := clientStepsRow.holds Try.pinned (OpenSpec.ofChange clientStepsSpec)

/-- ITS FALSE NEIGHBOUR: 'it returns false'. Refute it at one input. -/
def clientStepsWrong : ChangeSpec := { name := "clientSteps", fn := fun _ => fun
  | [d1, d2] => { results := [.lit (.bool false)], args := [d1, d2] }
  | _ => none }
def ClientStepsWrongFalsely : Prop := clientStepsRow.holds Try.pinned (OpenSpec.ofChange clientStepsWrong)

/-- 'buttresslaw23.ClientOnce': WHATEVER THE INPUT: true; the input reads as it did. -/
def clientOnceSpec : ChangeSpec := { name := "clientOnce", fn := fun _ => fun
  | [d1, d2, d3] => { results := [.lit (.bool true)], args := [d1, d2, d3] }
  | _ => none }
def clientOnceRow : OpenClaim := { program := "ytmamdnikjfmenaa", sum := "e857844f0e2e9b079d3cdfa43ea7d543221de9687975405dfa34964fde94fe68", func := "buttress/buttresslaw23.ClientOnce", spec := "clientOnce", unfollowed := true, recurses := true, apart := false }
def ClientOnceSaid : Prop := clientOnceRow.holds Try.pinned (OpenSpec.ofChange clientOnceSpec)

/-- ITS FALSE NEIGHBOUR: 'it returns false'. Refute it at one input. -/
def clientOnceWrong : ChangeSpec := { name := "clientOnce", fn := fun _ => fun
  | [d1, d2, d3] => { results := [.lit (.bool false)], args := [d1, d2, d3] }
  | _ => none }
def ClientOnceWrongFalsely : Prop := clientOnceRow.holds Try.pinned (OpenSpec.ofChange clientOnceWrong)

/- THE SECOND FORM. 'bulk': how many values and letters a reading holds, each counted each time it is reached (what is shared counts as often as it is met; a slice's spare places count too). A statement '..UptoSaid' is the law's where the arguments, and the package variables that the reading takes, are together of bulk at most 1048576: NARROWER than '..Said'. Prove '..Said' where nothing that the law and all that it calls make is longer than what came in: it says more and counts as full. Else prove '..UptoSaid'. A law counts once. -/
mutual
def uptoBulk {H : Type} : DataW H → Nat
  | .lit (.string bytes) => bytes.length + 1
  | .lit _ => 1
  | .nil => 1
  | .ptr d => uptoBulk d + 1
  | .slice elems spare => uptoBulkAll elems + uptoBulkAll spare + 1
  | .agg parts => uptoBulkAll parts + 1
  | .iface _ d => uptoBulk d + 1
  | .map entries => uptoBulkEntries entries + 1
  | .held _ => 1
def uptoBulkAll {H : Type} : List (DataW H) → Nat
  | [] => 0
  | d :: r => uptoBulk d + uptoBulkAll r
def uptoBulkEntries {H : Type} : List (Lit × DataW H) → Nat
  | [] => 0
  | x :: r => uptoBulkEntry x + uptoBulkEntries r
def uptoBulkEntry {H : Type} : Lit × DataW H → Nat
  | (.string bytes, d) => bytes.length + uptoBulk d + 1
  | (_, d) => uptoBulk d + 1
 end
def uptoSmall : (H : Type) → List (DataW H) → Bool := fun _ ds => decide (uptoBulkAll ds ≤ 1048576)
def OpenSpec.upto (s : _root_.Go.ChangeSpec) : _root_.Go.OpenSpec := { _root_.Go.OpenSpec.ofChange s with cond := some uptoSmall }

/-- 'buttresslaw23.ClientLate', WHERE WHAT IT READS IS OF BULK AT MOST 1048576: true; the input reads as it did. -/
def clientLateUptoRow : OpenClaim := { program := "ytmamdnikjfmenaa", sum := "e857844f0e2e9b079d3cdfa43ea7d543221de9687975405dfa34964fde94fe68", func := "buttress/buttresslaw23.ClientLate", spec := "clientLate", unfollowed := true, recurses := true, apart := false, narrowed := true }
def ClientLateUptoSaid : Prop := clientLateUptoRow.holds Try.pinned (OpenSpec.upto clientLateSpec)

/-- 'buttresslaw23.ClientTurns', WHERE WHAT IT READS IS OF BULK AT MOST 1048576: true; the input reads as it did. -/
def clientTurnsUptoRow : OpenClaim := { program := "ytmamdnikjfmenaa", sum := "e857844f0e2e9b079d3cdfa43ea7d543221de9687975405dfa34964fde94fe68", func := "buttress/buttresslaw23.ClientTurns", spec := "clientTurns", unfollowed := true, recurses := true, apart := false, narrowed := true }
def ClientTurnsUptoSaid : Prop := clientTurnsUptoRow.holds Try.pinned (OpenSpec.upto clientTurnsSpec)

/-- 'buttresslaw23.ClientBegins', WHERE WHAT IT READS IS OF BULK AT MOST 1048576: true; the input reads as it did. -/
def clientBeginsUptoRow : OpenClaim := { program := "ytmamdnikjfmenaa", sum := "e857844f0e2e9b079d3cdfa43ea7d543221de9687975405dfa34964fde94fe68", func := "buttress/buttresslaw23.ClientBegins", spec := "clientBegins", unfollowed := true, recurses := true, apart := false, narrowed := true }
def ClientBeginsUptoSaid : Prop := clientBeginsUptoRow.holds Try.pinned (OpenSpec.upto clientBeginsSpec)

/-- 'buttresslaw23.ClientSteps', WHERE WHAT IT READS IS OF BULK AT MOST 1048576: true; the input reads as it did. -/
def clientStepsUptoRow : OpenClaim := { program := "ytmamdnikjfmenaa", sum := "e857844f0e2e9b079d3cdfa43ea7d543221de9687975405dfa34964fde94fe68", func := "buttress/buttresslaw23.ClientSteps", spec := "clientSteps", unfollowed := true, recurses := true, apart := false, narrowed := true }
def ClientStepsUptoSaid : Prop := clientStepsUptoRow.holds Try.pinned (OpenSpec.upto clientStepsSpec)

/-- 'buttresslaw23.ClientOnce', WHERE WHAT IT READS IS OF BULK AT MOST 1048576: true; the input reads as it did. -/
def clientOnceUptoRow : OpenClaim := { program := "ytmamdnikjfmenaa", sum := "e857844f0e2e9b079d3cdfa43ea7d543221de9687975405dfa34964fde94fe68", func := "buttress/buttresslaw23.ClientOnce", spec := "clientOnce", unfollowed := true, recurses := true, apart := false, narrowed := true }
def ClientOnceUptoSaid : Prop := clientOnceUptoRow.holds Try.pinned (OpenSpec.upto clientOnceSpec)

end Rows
end Go.Proofs.Ytmamdnikjfmenaa
