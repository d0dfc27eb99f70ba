/-
  No cell of these rows narrows 'for every input' (looked for: loops, veiled, ifaces, maps, wideKeys, modest, calm, conditions, laid).
  DERIVED. THE GIVEN ROWS OF THIS SEAT. 4 by the template 'for every input the law returns true; each argument reads behind the call as it read before'; 0 by the template 'total and deterministic' (their statements: YtmgiaedfonaefaaTotals.lean).
  GIVEN WITH THE SEED: the statements are not yours to turn. If you find one false, say at which input.
  Laid BY PROGRAM, IN A SANDBOX (cutbox-rows.mjs): the forced cells as the released guide's own fill.sh prints them over the translation b94a543a972cc854… (all of the seat's roots in one cut). By AI agents, Wed Nov 11 2026. No macro, syntax, notation, axiom, sorry.
-/
import Derived.Test.YtmgiaedfonaefaaChecked
import GoSem.Claim
import GoSem.ClaimJoined
import GoSem.ClaimMapViews
import Derived.JoinedTies
import Derived.KernelRfl
namespace Go.Proofs.Ytmgiaedfonaefaa
/- THE CELL 'sum', in the pinned program and in every row, IS THE sha256 OF THE DUMP (.gsa) THAT YtmgiaedfonaefaaProg.lean LOADS. Nothing in Lean hashes anything: it is a label: what it is worth is what the hold of that sum in a sandbox is worth. -/
noncomputable def Try.pinned : Pinned := { name := "ytmgiaedfonaefaa", sum := "b94a543a972cc8544d68fae03290a50af5ba305b5072c8b216fb896e01738902", checked := Try.checked }
namespace Rows
def none {H : Type} : Left H := { results := [], args := [] }

/-- 'burgagelaw02.SlabLeast': WHATEVER THE INPUT: true; the input reads as it did. -/
def slabLeastSpec : ChangeSpec := { name := "slabLeast", fn := fun _ => fun
  | [d1, d2, d3] => { results := [.lit (.bool true)], args := [d1, d2, d3] }
  | _ => none }
def slabLeastRow : OpenClaim := { program := "ytmgiaedfonaefaa", sum := "b94a543a972cc8544d68fae03290a50af5ba305b5072c8b216fb896e01738902", func := "burgage/burgagelaw02.SlabLeast", spec := "slabLeast", unfollowed := true, recurses := true, apart := false }
def SlabLeastSaid : Prop := slabLeastRow.holds Try.pinned (OpenSpec.ofChange slabLeastSpec)

/-- ITS FALSE NEIGHBOUR: 'it returns false'. Refute it at one input. -/
def slabLeastWrong : ChangeSpec := { name := "slabLeast", fn := fun _ => fun
  | [d1, d2, d3] => { results := [.lit (.bool false)], args := [d1, d2, d3] }
  | _ => none }
def SlabLeastWrongFalsely : Prop := slabLeastRow.holds Try.pinned (OpenSpec.ofChange slabLeastWrong)

/-- 'burgagelaw02.SlabNever': WHATEVER THE INPUT: true; the input reads as it did. -/
def slabNeverSpec : ChangeSpec := { name := "slabNever", fn := fun _ => fun
  | [d1, d2] => { results := [.lit (.bool true)], args := [d1, d2] }
  | _ => none }
def slabNeverRow : OpenClaim := { program := "ytmgiaedfonaefaa", sum := "b94a543a972cc8544d68fae03290a50af5ba305b5072c8b216fb896e01738902", func := "burgage/burgagelaw02.SlabNever", spec := "slabNever", unfollowed := true, recurses := true, apart := false }
def SlabNeverSaid : Prop := slabNeverRow.holds Try.pinned (OpenSpec.ofChange slabNeverSpec)

/-- ITS FALSE NEIGHBOUR: 'it returns false'. Refute it at one input. -/
def slabNeverWrong : ChangeSpec := { name := "slabNever", fn := fun _ => fun
  | [d1, d2] => { results := [.lit (.bool false)], args := [d1, d2] }
  | _ => none }
def SlabNeverWrongFalsely : Prop := slabNeverRow.holds Try.pinned (OpenSpec.ofChange slabNeverWrong)

/-- 'burgagelaw02.SlabDoes': WHATEVER THE INPUT: true; the input reads as it did. -/
def slabDoesSpec : ChangeSpec := { name := "slabDoes", fn := fun _ => fun
  | [d1, d2] => { results := [.lit (.bool true)], args := [d1, d2] }
  | _ => none }
def slabDoesRow : OpenClaim := { program := "ytmgiaedfonaefaa", sum := "b94a543a972cc8544d68fae03290a50af5ba305b5072c8b216fb896e01738902", func := "burgage/burgagelaw02.SlabDoes", spec := "slabDoes", unfollowed := true, recurses := true, apart := false }
def SlabDoesSaid : Prop := slabDoesRow.holds Try.pinned (OpenSpec.ofChange slabDoesSpec)

/-- ITS FALSE NEIGHBOUR: 'it returns false'. Refute it at one input. -/
def slabDoesWrong : ChangeSpec := { name := "slabDoes", fn := fun _ => fun
  | [d1, d2] => { results := [.lit (.bool false)], args := [d1, d2] }
  | _ => none }
def SlabDoesWrongFalsely : Prop := slabDoesRow.holds Try.pinned (OpenSpec.ofChange slabDoesWrong)

/-- 'burgagelaw02.SlabEnds': WHATEVER THE INPUT: true; the input reads as it did. -/
def slabEndsSpec : ChangeSpec := { name := "slabEnds", fn := fun _ => fun
  | [] => { results := [.lit (.bool true)], args := [] }
  | _ => none }
def slabEndsRow : OpenClaim := { program := "ytmgiaedfonaefaa", sum := "b94a543a972cc8544d68fae03290a50af5ba305b5072c8b216fb896e01738902", func := "burgage/burgagelaw02.SlabEnds", spec := "slabEnds", unfollowed := true, recurses := true, apart := false }
def SlabEndsSaid : Prop := slabEndsRow.holds Try.pinned (OpenSpec.ofChange slabEndsSpec)

/-- ITS FALSE NEIGHBOUR: 'it returns false'. Refute it at one input. -/
def slabEndsWrong : ChangeSpec := { name := "slabEnds", fn := fun _ => fun
  | [] => { results := [.lit (.bool false)], args := [] }
  | _ => none }
def SlabEndsWrongFalsely : Prop := slabEndsRow.holds Try.pinned (OpenSpec.ofChange slabEndsWrong)

/- THE SECOND FORM. 'bulk': how many values and letters a reading holds, each counted each time it is reached (what is shared counts as often as it is met; a slice's spare places count too). A statement '..UptoSaid' is the law's where the arguments, and the package variables that the reading takes, are together of bulk at most 1048576: NARROWER than '..Said'. Prove '..Said' where nothing that the law and all that it calls make is longer than what came in: it says more and counts as full. Else prove '..UptoSaid'. A law counts once. -/
mutual
def uptoBulk {H : Type} : DataW H → Nat
  | .lit (.string bytes) => bytes.length + 1
  | .lit _ => 1
  | .nil => 1
  | .ptr d => uptoBulk d + 1
  | .slice elems spare => uptoBulkAll elems + uptoBulkAll spare + 1
  | .agg parts => uptoBulkAll parts + 1
  | .iface _ d => uptoBulk d + 1
  | .map entries => uptoBulkEntries entries + 1
  | .held _ => 1
def uptoBulkAll {H : Type} : List (DataW H) → Nat
  | [] => 0
  | d :: r => uptoBulk d + uptoBulkAll r
def uptoBulkEntries {H : Type} : List (Lit × DataW H) → Nat
  | [] => 0
  | x :: r => uptoBulkEntry x + uptoBulkEntries r
def uptoBulkEntry {H : Type} : Lit × DataW H → Nat
  | (.string bytes, d) => bytes.length + uptoBulk d + 1
  | (_, d) => uptoBulk d + 1
 end
def uptoSmall : (H : Type) → List (DataW H) → Bool := fun _ ds => decide (uptoBulkAll ds ≤ 1048576)
def OpenSpec.upto (s : _root_.Go.ChangeSpec) : _root_.Go.OpenSpec := { _root_.Go.OpenSpec.ofChange s with cond := some uptoSmall }

/-- 'burgagelaw02.SlabLeast', WHERE WHAT IT READS IS OF BULK AT MOST 1048576: true; the input reads as it did. -/
def slabLeastUptoRow : OpenClaim := { program := "ytmgiaedfonaefaa", sum := "b94a543a972cc8544d68fae03290a50af5ba305b5072c8b216fb896e01738902", func := "burgage/burgagelaw02.SlabLeast", spec := "slabLeast", unfollowed := true, recurses := true, apart := false, narrowed := true }
def SlabLeastUptoSaid : Prop := slabLeastUptoRow.holds Try.pinned (OpenSpec.upto slabLeastSpec)

/-- 'burgagelaw02.SlabNever', WHERE WHAT IT READS IS OF BULK AT MOST 1048576: true; the input reads as it did. -/
def slabNeverUptoRow : OpenClaim := { program := "ytmgiaedfonaefaa", sum := "b94a543a972cc8544d68fae03290a50af5ba305b5072c8b216fb896e01738902", func := "burgage/burgagelaw02.SlabNever", spec := "slabNever", unfollowed := true, recurses := true, apart := false, narrowed := true }
def SlabNeverUptoSaid : Prop := slabNeverUptoRow.holds Try.pinned (OpenSpec.upto slabNeverSpec)

/-- 'burgagelaw02.SlabDoes', WHERE WHAT IT READS IS OF BULK AT MOST 1048576: true; the input reads as it did. -/
def slabDoesUptoRow : OpenClaim := { program := "ytmgiaedfonaefaa", sum := "b94a543a972cc8544d68fae03290a50af5ba305b5072c8b216fb896e01738902", func := "burgage/burgagelaw02.SlabDoes", spec := "slabDoes", unfollowed := true, recurses := true, apart := false, narrowed := true }
def SlabDoesUptoSaid : Prop := slabDoesUptoRow.holds Try.pinned (OpenSpec.upto slabDoesSpec)

/-- 'burgagelaw02.SlabEnds', WHERE WHAT IT READS IS OF BULK AT MOST 1048576: true; the input reads as it did. -/
def slabEndsUptoRow : OpenClaim := { program := "ytmgiaedfonaefaa", sum := "b94a543a972cc8544d68fae03290a50af5ba305b5072c8b216fb896e01738902", func := "burgage/burgagelaw02.SlabEnds", spec := "slabEnds", unfollowed := true, recurses := true, apart := false, narrowed := true }
def SlabEndsUptoSaid : Prop := slabEndsUptoRow.holds Try.pinned (OpenSpec.upto slabEndsSpec)

end Rows
end Go.Proofs.Ytmgiaedfonaefaa
