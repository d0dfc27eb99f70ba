/-
  DERIVED. GIVEN WITH THE SEED: THE CARDS: each row of YtnngicopphiaaaaGreatDoorRows.lean that lists a variable, with what it lists TIED to the program's text (the seventh form; the later family's looks); each row that meets fmt, with fmt's text TOLD by the authors' own Lean function (tested against real Go, not proved from fmt's source: count such statements apart). THE CARD IS WHAT COUNTS. Prove the row's statement (the work); the ties are given (YtnngicopphiaaaaGreatDoorTie.lean); close each card by the builder's one call (the guide's Derived/Test/ToyasCard.lean, 'card_holds'). Laid BY PROGRAM, IN A SANDBOX (cutbox-door.mjs). By AI agents, Wed Nov 11 2026. No macro, syntax, notation, axiom, sorry.
-/
import Derived.Test.YtnngicopphiaaaaGreatDoorRows
import GoSem.ClaimSeven
namespace Go.Proofs.YtnngicopphiaaaaGreatDoor
namespace Rows

/-- THE TIED CARD OF 'burgagelaw17.TreeWords'. -/
def treeWordsCard : Claim7 := { stood := { row := treeWordsRow, standIns := [], harness := (true, "c1ba0b151595e8cb2c135c5f1036985d587761f42c823bf0f847f054d8b22407"), looks := true }, kinds := [], alts := [], laidByText := true, laidKinds := [.data], laidTests := true, laidLooks := .later }
def TreeWordsCardSaid : Prop := Claim7.holds Tryz.pinned (.plain (OpenSpec.ofChange treeWordsSpec)) treeWordsCard

/-- THE SECOND FORM's CARD OF 'burgagelaw17.TreeWords'. -/
def treeWordsUptoCard : Claim7 := { stood := { row := treeWordsUptoRow, standIns := [], harness := (true, "c1ba0b151595e8cb2c135c5f1036985d587761f42c823bf0f847f054d8b22407"), looks := true }, kinds := [], alts := [], laidByText := true, laidKinds := [.data], laidTests := true, laidLooks := .later }
def TreeWordsUptoCardSaid : Prop := Claim7.holds Tryz.pinned (.plain (OpenSpec.upto treeWordsSpec)) treeWordsUptoCard
end Rows
end Go.Proofs.YtnngicopphiaaaaGreatDoor
