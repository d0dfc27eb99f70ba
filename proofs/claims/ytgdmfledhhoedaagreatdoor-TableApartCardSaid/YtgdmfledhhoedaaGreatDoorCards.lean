/-
  DERIVED. GIVEN WITH THE SEED: THE CARDS: each row of YtgdmfledhhoedaaGreatDoorRows.lean that lists a variable, with what it lists TIED to the program's text (the seventh form; the later family's looks); each row that meets fmt, with fmt's text TOLD by the authors' own Lean function (tested against real Go, not proved from fmt's source: count such statements apart). THE CARD IS WHAT COUNTS. Prove the row's statement (the work); the ties are given (YtgdmfledhhoedaaGreatDoorTie.lean); close each card by the builder's one call (the guide's Derived/Test/ToyasCard.lean, 'card_holds'). Laid BY PROGRAM, IN A SANDBOX (cutbox-door.mjs). By AI agents, Wed Nov 11 2026. No macro, syntax, notation, axiom, sorry.
-/
import Derived.Test.YtgdmfledhhoedaaGreatDoorRows
import GoSem.ClaimSeven
namespace Go.Proofs.YtgdmfledhhoedaaGreatDoor
namespace Rows

/-- THE TIED CARD OF 'burgagelaw24.TablePaths'. -/
def tablePathsCard : Claim7 := { stood := { row := tablePathsRow, standIns := [], harness := (true, "6c81ff1b3244c8fd0224996d72260d9e417f34edb1c5e6365844a126dad94317"), looks := true }, kinds := [], alts := [], laidByText := true, laidKinds := [.data], laidTests := true, laidLooks := .later }
def TablePathsCardSaid : Prop := Claim7.holds Tryz.pinned (.plain (OpenSpec.ofChange tablePathsSpec)) tablePathsCard

/-- THE TIED CARD OF 'burgagelaw24.TableApart'. -/
def tableApartCard : Claim7 := { stood := { row := tableApartRow, standIns := [], harness := (true, "6c81ff1b3244c8fd0224996d72260d9e417f34edb1c5e6365844a126dad94317"), looks := true }, kinds := [], alts := [], laidByText := true, laidKinds := [.data], laidTests := true, laidLooks := .later }
def TableApartCardSaid : Prop := Claim7.holds Tryz.pinned (.plain (OpenSpec.ofChange tableApartSpec)) tableApartCard

/-- THE SECOND FORM's CARD OF 'burgagelaw24.TablePaths'. -/
def tablePathsUptoCard : Claim7 := { stood := { row := tablePathsUptoRow, standIns := [], harness := (true, "6c81ff1b3244c8fd0224996d72260d9e417f34edb1c5e6365844a126dad94317"), looks := true }, kinds := [], alts := [], laidByText := true, laidKinds := [.data], laidTests := true, laidLooks := .later }
def TablePathsUptoCardSaid : Prop := Claim7.holds Tryz.pinned (.plain (OpenSpec.upto tablePathsSpec)) tablePathsUptoCard

/-- THE SECOND FORM's CARD OF 'burgagelaw24.TableApart'. -/
def tableApartUptoCard : Claim7 := { stood := { row := tableApartUptoRow, standIns := [], harness := (true, "6c81ff1b3244c8fd0224996d72260d9e417f34edb1c5e6365844a126dad94317"), looks := true }, kinds := [], alts := [], laidByText := true, laidKinds := [.data], laidTests := true, laidLooks := .later }
def TableApartUptoCardSaid : Prop := Claim7.holds Tryz.pinned (.plain (OpenSpec.upto tableApartSpec)) tableApartUptoCard
end Rows
end Go.Proofs.YtgdmfledhhoedaaGreatDoor
