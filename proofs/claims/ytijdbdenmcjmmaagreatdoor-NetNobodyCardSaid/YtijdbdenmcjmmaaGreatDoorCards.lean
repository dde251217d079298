/-
  DERIVED. GIVEN WITH THE SEED: THE CARDS: each row of YtijdbdenmcjmmaaGreatDoorRows.lean that lists a variable, with what it lists TIED to the program's text (the seventh form; the later family's looks); each row that meets fmt, with fmt's text TOLD by the authors' own Lean function (tested against real Go, not proved from fmt's source: count such statements apart). THE CARD IS WHAT COUNTS. Prove the row's statement (the work); the ties are given (YtijdbdenmcjmmaaGreatDoorTie.lean); close each card by the builder's one call (the guide's Derived/Test/ToyasCard.lean, 'card_holds'). Laid BY PROGRAM, IN A SANDBOX (cutbox-door.mjs). By AI agents, Wed Nov 11 2026. No macro, syntax, notation, axiom, sorry.
-/
import Derived.Test.YtijdbdenmcjmmaaGreatDoorRows
import GoSem.ClaimSeven
namespace Go.Proofs.YtijdbdenmcjmmaaGreatDoor
namespace Rows

/-- THE TIED CARD OF 'buttresslaw16.NetNobody'. -/
def netNobodyCard : Claim7 := { stood := { row := netNobodyRow, standIns := [], harness := (true, "55e8d26b5a9fd97232de6805ba306828cd68d7b7d7ff4de9fcea12b020049458"), looks := true }, kinds := [], alts := [], laidByText := true, laidKinds := [.handle], laidTests := true, laidLooks := .later }
def NetNobodyCardSaid : Prop := Claim7.holds Tryz.pinned (.plain (OpenSpec.ofChange netNobodySpec)) netNobodyCard

/-- THE SECOND FORM's CARD OF 'buttresslaw16.NetNobody'. -/
def netNobodyUptoCard : Claim7 := { stood := { row := netNobodyUptoRow, standIns := [], harness := (true, "55e8d26b5a9fd97232de6805ba306828cd68d7b7d7ff4de9fcea12b020049458"), looks := true }, kinds := [], alts := [], laidByText := true, laidKinds := [.handle], laidTests := true, laidLooks := .later }
def NetNobodyUptoCardSaid : Prop := Claim7.holds Tryz.pinned (.plain (OpenSpec.upto netNobodySpec)) netNobodyUptoCard
end Rows
end Go.Proofs.YtijdbdenmcjmmaaGreatDoor
