/-
  NARROWER THAN 'FOR EVERY INPUT', by the rows' own cells (each row's printed sentence says how): TablePaths: laid · TableApart: laid.
  DERIVED. THE GIVEN ROWS OF THIS SEAT. 2 by the template 'for every input the law returns true; each argument reads behind the call as it read before'; 0 by the template 'total and deterministic' (their statements: YtgdmfledhhoedaaGreatDoorTotals.lean).
  GIVEN WITH THE SEED: the statements are not yours to turn. If you find one false, say at which input.
  Laid BY PROGRAM, IN A SANDBOX (cutbox-rows.mjs): the forced cells as the released guide's own fill.sh prints them over the translation 71608cd420f1bc06… (all of the seat's roots in one cut). By AI agents, Wed Nov 11 2026. No macro, syntax, notation, axiom, sorry.
-/
import Derived.Test.YtgdmfledhhoedaaGreatDoorChecked
import GoSem.Claim
import GoSem.ClaimJoined
import GoSem.ClaimMapViews
import Derived.JoinedTies
import Derived.KernelRfl
namespace Go.Proofs.YtgdmfledhhoedaaGreatDoor
/- THE CELL 'sum', in the pinned program and in every row, IS THE sha256 OF THE DUMP (.gsa) THAT YtgdmfledhhoedaaGreatDoorProg.lean LOADS. Nothing in Lean hashes anything: it is a label: what it is worth is what the hold of that sum in a sandbox is worth. -/
noncomputable def Tryz.pinned : Pinned := { name := "ytgdmfledhhoedaagreatdoor", sum := "71608cd420f1bc0661a271037d98af7084ac91f663445ab1860e07a17e976ec5", checked := Tryz.checked }
namespace Rows
def none {H : Type} : Left H := { results := [], args := [] }

/- WHAT THE LISTED PACKAGE-LEVEL VARIABLES READ AS WHEN THE CALL BEGINS. Each datum BY PROGRAM (the guide's laid-datum.mjs) off the statement by which the dump's own 'gosem.cut.vars' lays the variable. In a bare row this is a premise. The card (YtgdmfledhhoedaaGreatDoorCards.lean) ties it to the program's text. -/
def laid_burgage_node_rooms {H : Type} : DataW H := .agg [.lit (.int .i64 0), .lit (.int .i64 0), .lit (.int .i64 4), .lit (.int .i64 16), .lit (.int .i64 48), .lit (.int .i64 256)]

/-- 'burgagelaw24.TablePaths': WHATEVER THE INPUT: true; the input reads as it did. -/
def tablePathsSpec : ChangeSpec := { name := "tablePaths", fn := fun _ => fun
  | [d1, d2] => { results := [.lit (.bool true)], args := [d1, d2] }
  | _ => none }
def tablePathsRow : OpenClaim := { program := "ytgdmfledhhoedaagreatdoor", sum := "71608cd420f1bc0661a271037d98af7084ac91f663445ab1860e07a17e976ec5", func := "burgage/burgagelaw24.TablePaths", spec := "tablePaths", unfollowed := true, recurses := true, named := ["burgage/node.rooms"], plainKeys := false, apart := false, laid := [("burgage/node.rooms", laid_burgage_node_rooms)] }
def TablePathsSaid : Prop := tablePathsRow.holds Tryz.pinned (OpenSpec.ofChange tablePathsSpec)

/-- ITS FALSE NEIGHBOUR: 'it returns false'. Refute it at one input. -/
def tablePathsWrong : ChangeSpec := { name := "tablePaths", fn := fun _ => fun
  | [d1, d2] => { results := [.lit (.bool false)], args := [d1, d2] }
  | _ => none }
def TablePathsWrongFalsely : Prop := tablePathsRow.holds Tryz.pinned (OpenSpec.ofChange tablePathsWrong)

/-- 'burgagelaw24.TableApart': WHATEVER THE INPUT: true; the input reads as it did. -/
def tableApartSpec : ChangeSpec := { name := "tableApart", fn := fun _ => fun
  | [d1, d2] => { results := [.lit (.bool true)], args := [d1, d2] }
  | _ => none }
def tableApartRow : OpenClaim := { program := "ytgdmfledhhoedaagreatdoor", sum := "71608cd420f1bc0661a271037d98af7084ac91f663445ab1860e07a17e976ec5", func := "burgage/burgagelaw24.TableApart", spec := "tableApart", unfollowed := true, recurses := true, named := ["burgage/node.rooms"], plainKeys := false, apart := false, laid := [("burgage/node.rooms", laid_burgage_node_rooms)] }
def TableApartSaid : Prop := tableApartRow.holds Tryz.pinned (OpenSpec.ofChange tableApartSpec)

/-- ITS FALSE NEIGHBOUR: 'it returns false'. Refute it at one input. -/
def tableApartWrong : ChangeSpec := { name := "tableApart", fn := fun _ => fun
  | [d1, d2] => { results := [.lit (.bool false)], args := [d1, d2] }
  | _ => none }
def TableApartWrongFalsely : Prop := tableApartRow.holds Tryz.pinned (OpenSpec.ofChange tableApartWrong)

/- THE SECOND FORM. 'bulk': how many values and letters a reading holds, each counted each time it is reached (what is shared counts as often as it is met; a slice's spare places count too). A statement '..UptoSaid' is the law's where the arguments, and the package variables that the reading takes, are together of bulk at most 1048576: NARROWER than '..Said'. Prove '..Said' where nothing that the law and all that it calls make is longer than what came in: it says more and counts as full. Else prove '..UptoSaid'. A law counts once. -/
mutual
def uptoBulk {H : Type} : DataW H → Nat
  | .lit (.string bytes) => bytes.length + 1
  | .lit _ => 1
  | .nil => 1
  | .ptr d => uptoBulk d + 1
  | .slice elems spare => uptoBulkAll elems + uptoBulkAll spare + 1
  | .agg parts => uptoBulkAll parts + 1
  | .iface _ d => uptoBulk d + 1
  | .map entries => uptoBulkEntries entries + 1
  | .held _ => 1
def uptoBulkAll {H : Type} : List (DataW H) → Nat
  | [] => 0
  | d :: r => uptoBulk d + uptoBulkAll r
def uptoBulkEntries {H : Type} : List (Lit × DataW H) → Nat
  | [] => 0
  | x :: r => uptoBulkEntry x + uptoBulkEntries r
def uptoBulkEntry {H : Type} : Lit × DataW H → Nat
  | (.string bytes, d) => bytes.length + uptoBulk d + 1
  | (_, d) => uptoBulk d + 1
 end
def uptoSmall : (H : Type) → List (DataW H) → Bool := fun _ ds => decide (uptoBulkAll ds ≤ 1048576)
def OpenSpec.upto (s : _root_.Go.ChangeSpec) : _root_.Go.OpenSpec := { _root_.Go.OpenSpec.ofChange s with cond := some uptoSmall }

/-- 'burgagelaw24.TablePaths', WHERE WHAT IT READS IS OF BULK AT MOST 1048576: true; the input reads as it did. -/
def tablePathsUptoRow : OpenClaim := { program := "ytgdmfledhhoedaagreatdoor", sum := "71608cd420f1bc0661a271037d98af7084ac91f663445ab1860e07a17e976ec5", func := "burgage/burgagelaw24.TablePaths", spec := "tablePaths", unfollowed := true, recurses := true, named := ["burgage/node.rooms"], plainKeys := false, apart := false, laid := [("burgage/node.rooms", laid_burgage_node_rooms)], narrowed := true }
def TablePathsUptoSaid : Prop := tablePathsUptoRow.holds Tryz.pinned (OpenSpec.upto tablePathsSpec)

/-- 'burgagelaw24.TableApart', WHERE WHAT IT READS IS OF BULK AT MOST 1048576: true; the input reads as it did. -/
def tableApartUptoRow : OpenClaim := { program := "ytgdmfledhhoedaagreatdoor", sum := "71608cd420f1bc0661a271037d98af7084ac91f663445ab1860e07a17e976ec5", func := "burgage/burgagelaw24.TableApart", spec := "tableApart", unfollowed := true, recurses := true, named := ["burgage/node.rooms"], plainKeys := false, apart := false, laid := [("burgage/node.rooms", laid_burgage_node_rooms)], narrowed := true }
def TableApartUptoSaid : Prop := tableApartUptoRow.holds Tryz.pinned (OpenSpec.upto tableApartSpec)

end Rows
end Go.Proofs.YtgdmfledhhoedaaGreatDoor
