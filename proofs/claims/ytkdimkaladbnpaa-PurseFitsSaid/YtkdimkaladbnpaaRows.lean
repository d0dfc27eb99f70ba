/-
  No cell of these rows narrows 'for every input' (looked for: loops, veiled, ifaces, maps, wideKeys, modest, calm, conditions, laid).
  DERIVED. THE GIVEN ROWS OF THIS SEAT. 6 by the template 'for every input the law returns true; each argument reads behind the call as it read before'; 0 by the template 'total and deterministic' (their statements: YtkdimkaladbnpaaTotals.lean).
  GIVEN WITH THE SEED: the statements are not yours to turn. If you find one false, say at which input.
  Laid BY PROGRAM, IN A SANDBOX (cutbox-rows.mjs): the forced cells as the released guide's own fill.sh prints them over the translation 7ccd44da947704b8… (all of the seat's roots in one cut). By AI agents, Wed Nov 11 2026. No macro, syntax, notation, axiom, sorry.
-/
import Derived.Test.YtkdimkaladbnpaaChecked
import GoSem.Claim
import GoSem.ClaimJoined
import GoSem.ClaimMapViews
import Derived.JoinedTies
import Derived.KernelRfl
namespace Go.Proofs.Ytkdimkaladbnpaa
/- THE CELL 'sum', in the pinned program and in every row, IS THE sha256 OF THE DUMP (.gsa) THAT YtkdimkaladbnpaaProg.lean LOADS. Nothing in Lean hashes anything: it is a label: what it is worth is what the hold of that sum in a sandbox is worth. -/
noncomputable def Try.pinned : Pinned := { name := "ytkdimkaladbnpaa", sum := "7ccd44da947704b8be20ab8b8362b91ce942efc74552721a61291c934b43971f", checked := Try.checked }
namespace Rows
def none {H : Type} : Left H := { results := [], args := [] }

/-- 'burgagelaw14.PurseOnce': WHATEVER THE INPUT: true; the input reads as it did. -/
def purseOnceSpec : ChangeSpec := { name := "purseOnce", fn := fun _ => fun
  | [d1, d2, d3, d4] => { results := [.lit (.bool true)], args := [d1, d2, d3, d4] }
  | _ => none }
def purseOnceRow : OpenClaim := { program := "ytkdimkaladbnpaa", sum := "7ccd44da947704b8be20ab8b8362b91ce942efc74552721a61291c934b43971f", func := "burgage/burgagelaw14.PurseOnce", spec := "purseOnce", unfollowed := true, recurses := true, apart := false }
def PurseOnceSaid : Prop := purseOnceRow.holds Try.pinned (OpenSpec.ofChange purseOnceSpec)

/-- ITS FALSE NEIGHBOUR: 'it returns false'. Refute it at one input. -/
def purseOnceWrong : ChangeSpec := { name := "purseOnce", fn := fun _ => fun
  | [d1, d2, d3, d4] => { results := [.lit (.bool false)], args := [d1, d2, d3, d4] }
  | _ => none }
def PurseOnceWrongFalsely : Prop := purseOnceRow.holds Try.pinned (OpenSpec.ofChange purseOnceWrong)

/-- 'burgagelaw14.PurseTells': WHATEVER THE INPUT: true; the input reads as it did. -/
def purseTellsSpec : ChangeSpec := { name := "purseTells", fn := fun _ => fun
  | [d1, d2] => { results := [.lit (.bool true)], args := [d1, d2] }
  | _ => none }
def purseTellsRow : OpenClaim := { program := "ytkdimkaladbnpaa", sum := "7ccd44da947704b8be20ab8b8362b91ce942efc74552721a61291c934b43971f", func := "burgage/burgagelaw14.PurseTells", spec := "purseTells", unfollowed := true, recurses := true, apart := false }
def PurseTellsSaid : Prop := purseTellsRow.holds Try.pinned (OpenSpec.ofChange purseTellsSpec)

/-- ITS FALSE NEIGHBOUR: 'it returns false'. Refute it at one input. -/
def purseTellsWrong : ChangeSpec := { name := "purseTells", fn := fun _ => fun
  | [d1, d2] => { results := [.lit (.bool false)], args := [d1, d2] }
  | _ => none }
def PurseTellsWrongFalsely : Prop := purseTellsRow.holds Try.pinned (OpenSpec.ofChange purseTellsWrong)

/-- 'burgagelaw14.PurseBound': WHATEVER THE INPUT: true; the input reads as it did. -/
def purseBoundSpec : ChangeSpec := { name := "purseBound", fn := fun _ => fun
  | [d1, d2] => { results := [.lit (.bool true)], args := [d1, d2] }
  | _ => none }
def purseBoundRow : OpenClaim := { program := "ytkdimkaladbnpaa", sum := "7ccd44da947704b8be20ab8b8362b91ce942efc74552721a61291c934b43971f", func := "burgage/burgagelaw14.PurseBound", spec := "purseBound", unfollowed := true, recurses := true, apart := false }
def PurseBoundSaid : Prop := purseBoundRow.holds Try.pinned (OpenSpec.ofChange purseBoundSpec)

/-- ITS FALSE NEIGHBOUR: 'it returns false'. Refute it at one input. -/
def purseBoundWrong : ChangeSpec := { name := "purseBound", fn := fun _ => fun
  | [d1, d2] => { results := [.lit (.bool false)], args := [d1, d2] }
  | _ => none }
def PurseBoundWrongFalsely : Prop := purseBoundRow.holds Try.pinned (OpenSpec.ofChange purseBoundWrong)

/-- 'burgagelaw14.PurseCopies': WHATEVER THE INPUT: true; the input reads as it did. -/
def purseCopiesSpec : ChangeSpec := { name := "purseCopies", fn := fun _ => fun
  | [d1, d2, d3, d4] => { results := [.lit (.bool true)], args := [d1, d2, d3, d4] }
  | _ => none }
def purseCopiesRow : OpenClaim := { program := "ytkdimkaladbnpaa", sum := "7ccd44da947704b8be20ab8b8362b91ce942efc74552721a61291c934b43971f", func := "burgage/burgagelaw14.PurseCopies", spec := "purseCopies", inPlace := ["maps.clone"], unfollowed := true, recurses := true, apart := false }
def PurseCopiesSaid : Prop := purseCopiesRow.holds Try.pinned (OpenSpec.ofChange purseCopiesSpec)

/-- ITS FALSE NEIGHBOUR: 'it returns false'. Refute it at one input. -/
def purseCopiesWrong : ChangeSpec := { name := "purseCopies", fn := fun _ => fun
  | [d1, d2, d3, d4] => { results := [.lit (.bool false)], args := [d1, d2, d3, d4] }
  | _ => none }
def PurseCopiesWrongFalsely : Prop := purseCopiesRow.holds Try.pinned (OpenSpec.ofChange purseCopiesWrong)

/-- 'burgagelaw14.PurseSmall': WHATEVER THE INPUT: true; the input reads as it did. -/
def purseSmallSpec : ChangeSpec := { name := "purseSmall", fn := fun _ => fun
  | [] => { results := [.lit (.bool true)], args := [] }
  | _ => none }
def purseSmallRow : OpenClaim := { program := "ytkdimkaladbnpaa", sum := "7ccd44da947704b8be20ab8b8362b91ce942efc74552721a61291c934b43971f", func := "burgage/burgagelaw14.PurseSmall", spec := "purseSmall", inPlace := ["maps.clone"], unfollowed := true, recurses := true, apart := false }
def PurseSmallSaid : Prop := purseSmallRow.holds Try.pinned (OpenSpec.ofChange purseSmallSpec)

/-- ITS FALSE NEIGHBOUR: 'it returns false'. Refute it at one input. -/
def purseSmallWrong : ChangeSpec := { name := "purseSmall", fn := fun _ => fun
  | [] => { results := [.lit (.bool false)], args := [] }
  | _ => none }
def PurseSmallWrongFalsely : Prop := purseSmallRow.holds Try.pinned (OpenSpec.ofChange purseSmallWrong)

/-- 'burgagelaw14.PurseFits': WHATEVER THE INPUT: true; the input reads as it did. -/
def purseFitsSpec : ChangeSpec := { name := "purseFits", fn := fun _ => fun
  | [d1, d2, d3, d4] => { results := [.lit (.bool true)], args := [d1, d2, d3, d4] }
  | _ => none }
def purseFitsRow : OpenClaim := { program := "ytkdimkaladbnpaa", sum := "7ccd44da947704b8be20ab8b8362b91ce942efc74552721a61291c934b43971f", func := "burgage/burgagelaw14.PurseFits", spec := "purseFits", inPlace := ["maps.clone"], unfollowed := true, recurses := true, apart := false }
def PurseFitsSaid : Prop := purseFitsRow.holds Try.pinned (OpenSpec.ofChange purseFitsSpec)

/-- ITS FALSE NEIGHBOUR: 'it returns false'. Refute it at one input. -/
def purseFitsWrong : ChangeSpec := { name := "purseFits", fn := fun _ => fun
  | [d1, d2, d3, d4] => { results := [.lit (.bool false)], args := [d1, d2, d3, d4] }
  | _ => none }
def PurseFitsWrongFalsely : Prop := purseFitsRow.holds Try.pinned (OpenSpec.ofChange purseFitsWrong)

/- THE SECOND FORM. 'bulk': how many values and letters a reading holds, each counted each time it is reached (what is shared counts as often as it is met; a slice's spare places count too). A statement '..UptoSaid' is the law's where the arguments, and the package variables that the reading takes, are together of bulk at most 1048576: NARROWER than '..Said'. Prove '..Said' where nothing that the law and all that it calls make is longer than what came in: it says more and counts as full. Else prove '..UptoSaid'. A law counts once. -/
mutual
def uptoBulk {H : Type} : DataW H → Nat
  | .lit (.string bytes) => bytes.length + 1
  | .lit _ => 1
  | .nil => 1
  | .ptr d => uptoBulk d + 1
  | .slice elems spare => uptoBulkAll elems + uptoBulkAll spare + 1
  | .agg parts => uptoBulkAll parts + 1
  | .iface _ d => uptoBulk d + 1
  | .map entries => uptoBulkEntries entries + 1
  | .held _ => 1
def uptoBulkAll {H : Type} : List (DataW H) → Nat
  | [] => 0
  | d :: r => uptoBulk d + uptoBulkAll r
def uptoBulkEntries {H : Type} : List (Lit × DataW H) → Nat
  | [] => 0
  | x :: r => uptoBulkEntry x + uptoBulkEntries r
def uptoBulkEntry {H : Type} : Lit × DataW H → Nat
  | (.string bytes, d) => bytes.length + uptoBulk d + 1
  | (_, d) => uptoBulk d + 1
 end
def uptoSmall : (H : Type) → List (DataW H) → Bool := fun _ ds => decide (uptoBulkAll ds ≤ 1048576)
def OpenSpec.upto (s : _root_.Go.ChangeSpec) : _root_.Go.OpenSpec := { _root_.Go.OpenSpec.ofChange s with cond := some uptoSmall }

/-- 'burgagelaw14.PurseOnce', WHERE WHAT IT READS IS OF BULK AT MOST 1048576: true; the input reads as it did. -/
def purseOnceUptoRow : OpenClaim := { program := "ytkdimkaladbnpaa", sum := "7ccd44da947704b8be20ab8b8362b91ce942efc74552721a61291c934b43971f", func := "burgage/burgagelaw14.PurseOnce", spec := "purseOnce", unfollowed := true, recurses := true, apart := false, narrowed := true }
def PurseOnceUptoSaid : Prop := purseOnceUptoRow.holds Try.pinned (OpenSpec.upto purseOnceSpec)

/-- 'burgagelaw14.PurseTells', WHERE WHAT IT READS IS OF BULK AT MOST 1048576: true; the input reads as it did. -/
def purseTellsUptoRow : OpenClaim := { program := "ytkdimkaladbnpaa", sum := "7ccd44da947704b8be20ab8b8362b91ce942efc74552721a61291c934b43971f", func := "burgage/burgagelaw14.PurseTells", spec := "purseTells", unfollowed := true, recurses := true, apart := false, narrowed := true }
def PurseTellsUptoSaid : Prop := purseTellsUptoRow.holds Try.pinned (OpenSpec.upto purseTellsSpec)

/-- 'burgagelaw14.PurseBound', WHERE WHAT IT READS IS OF BULK AT MOST 1048576: true; the input reads as it did. -/
def purseBoundUptoRow : OpenClaim := { program := "ytkdimkaladbnpaa", sum := "7ccd44da947704b8be20ab8b8362b91ce942efc74552721a61291c934b43971f", func := "burgage/burgagelaw14.PurseBound", spec := "purseBound", unfollowed := true, recurses := true, apart := false, narrowed := true }
def PurseBoundUptoSaid : Prop := purseBoundUptoRow.holds Try.pinned (OpenSpec.upto purseBoundSpec)

/-- 'burgagelaw14.PurseCopies', WHERE WHAT IT READS IS OF BULK AT MOST 1048576: true; the input reads as it did. -/
def purseCopiesUptoRow : OpenClaim := { program := "ytkdimkaladbnpaa", sum := "7ccd44da947704b8be20ab8b8362b91ce942efc74552721a61291c934b43971f", func := "burgage/burgagelaw14.PurseCopies", spec := "purseCopies", inPlace := ["maps.clone"], unfollowed := true, recurses := true, apart := false, narrowed := true }
def PurseCopiesUptoSaid : Prop := purseCopiesUptoRow.holds Try.pinned (OpenSpec.upto purseCopiesSpec)

/-- 'burgagelaw14.PurseSmall', WHERE WHAT IT READS IS OF BULK AT MOST 1048576: true; the input reads as it did. -/
def purseSmallUptoRow : OpenClaim := { program := "ytkdimkaladbnpaa", sum := "7ccd44da947704b8be20ab8b8362b91ce942efc74552721a61291c934b43971f", func := "burgage/burgagelaw14.PurseSmall", spec := "purseSmall", inPlace := ["maps.clone"], unfollowed := true, recurses := true, apart := false, narrowed := true }
def PurseSmallUptoSaid : Prop := purseSmallUptoRow.holds Try.pinned (OpenSpec.upto purseSmallSpec)

/-- 'burgagelaw14.PurseFits', WHERE WHAT IT READS IS OF BULK AT MOST 1048576: true; the input reads as it did. -/
def purseFitsUptoRow : OpenClaim := { program := "ytkdimkaladbnpaa", sum := "7ccd44da947704b8be20ab8b8362b91ce942efc74552721a61291c934b43971f", func := "burgage/burgagelaw14.PurseFits", spec := "purseFits", inPlace := ["maps.clone"], unfollowed := true, recurses := true, apart := false, narrowed := true }
def PurseFitsUptoSaid : Prop := purseFitsUptoRow.holds Try.pinned (OpenSpec.upto purseFitsSpec)

end Rows
end Go.Proofs.Ytkdimkaladbnpaa
