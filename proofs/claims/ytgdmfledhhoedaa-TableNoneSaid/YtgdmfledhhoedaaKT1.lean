/- Words of locks: their bits, and what becomes of them. -/
import Derived.Test.YtgdmfledhhoedaaRows
import Derived.Test.YtgdmfledhhoedaaBits
import Derived.Test.YtgdmfledhhoedaaSeq
import Derived.WalkSpells
namespace Go.Burg.Lk
/-- A number of 64 bits. -/
abbrev Wd := { x : Int // 0 ≤ x ∧ x ≤ 18446744073709551615 }
def Wd.dead (x : Wd) : Bool := decide (x.1 / 2 % 2 = 1)
def Wd.locked (x : Wd) : Bool := decide (x.1 % 2 = 1)
def Wd.free (x : Wd) : Bool := !x.locked && !x.dead
def Wd.held (x : Wd) : Bool := x.locked && !x.dead
/-- Turned into another number, cut to 64 bits. -/
def Wd.of (x : Int) : Wd := ⟨IntKind.u64.wrap x, by
  have : IntKind.u64.wrap x = x % 18446744073709551616 := rfl
  rw [this]; omega⟩
theorem Wd.of_in (x : Int) (h0 : 0 ≤ x) (h1 : x ≤ 18446744073709551615) : (Wd.of x).1 = x := by
  have : IntKind.u64.wrap x = x % 18446744073709551616 := rfl
  show IntKind.u64.wrap x = x
  rw [this]; omega
theorem Wd.val (x : Wd) : Wd.of x.1 = x := Subtype.ext (Wd.of_in _ x.2.1 x.2.2)
theorem Wd.free_iff (x : Wd) : x.free = true ↔ x.1 % 4 = 0 := by
  simp only [Wd.free, Wd.locked, Wd.dead, Bool.and_eq_true, Bool.not_eq_true', decide_eq_false_iff_not]
  omega
theorem Wd.held_iff (x : Wd) : x.held = true ↔ x.1 % 4 = 1 := by
  simp only [Wd.held, Wd.locked, Wd.dead, Bool.and_eq_true, Bool.not_eq_true', decide_eq_false_iff_not, decide_eq_true_eq]
  omega
/-- What a word is turned into, and whether it may be: 0 Drop, 1 Done, 2 Kill. -/
def Wd.lock (x : Wd) : Wd × Bool := if x.free then (Wd.of (x.1 + 1), true) else (x, false)
def Wd.drop (x : Wd) : Wd × Bool := if x.held then (Wd.of (x.1 - 1), true) else (x, false)
def Wd.done (x : Wd) : Wd × Bool := if x.held then (Wd.of (x.1 - 1 + 4), true) else (x, false)
def Wd.kill (x : Wd) : Wd × Bool := if x.held then (Wd.of ((Wd.of (x.1 - 1 + 4)).1 + 2), true) else (x, false)
def Wd.turn (x : Wd) (how : Nat) : Wd × Bool := match how with | 0 => x.drop | 1 => x.done | _ => x.kill
end Go.Burg.Lk
namespace Go.Proofs.Ytgdmfledhhoedaa.K
set_option maxRecDepth 8000
open Go.ChangeShapes Go.WideShapes Go.ChangeAt Go.RowKit Go.Burg
open Go.Burg.Lk
theorem blk_below {w w1 : World} {B b : Nat} {o : Obj} (h : w.heap[b]? = some o) (hb : Below B w w1) (hB : b < B) : w1.heap[b]? = some o := (hb.block b hB).trans h
theorem blk_alloc {w : World} {b : Nat} {o o' : Obj} (h : w.heap[b]? = some o) : (w.alloc o').heap[b]? = some o := (Below.heap_alloc _ _ _ (lt_of_block h)).trans h
theorem below_drewN {B n : Nat} {a b : World} (h : Below B a b) : Below B a (b.drewN n) := ⟨h.os, h.tape, h.output, h.size, h.block⟩
theorem mod_drewN {S : Nat → Prop} {n : Nat} {a b : World} (h : Mod S a b) : Mod S a (b.drewN n) := ⟨h.os, h.tape, h.output, h.size, h.block⟩
/-- A word's value. -/
def wV (x : Wd) : Value := .int .u64 x.1

end Go.Proofs.Ytgdmfledhhoedaa.K
