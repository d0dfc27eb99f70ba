/- Words of locks: their bits, and what becomes of them. -/
import Derived.Test.YtofkodfdgbjboaaRows
import Derived.Test.YtofkodfdgbjboaaBits
import Derived.Test.YtofkodfdgbjboaaSeq
import Derived.WalkSpells
namespace Go.Burg.Lk
/-- A number of 64 bits. -/
abbrev Wd := { x : Int // 0 ≤ x ∧ x ≤ 18446744073709551615 }
def Wd.dead (x : Wd) : Bool := decide (x.1 / 2 % 2 = 1)
def Wd.locked (x : Wd) : Bool := decide (x.1 % 2 = 1)
def Wd.free (x : Wd) : Bool := !x.locked && !x.dead
def Wd.held (x : Wd) : Bool := x.locked && !x.dead
/-- Turned into another number, cut to 64 bits. -/
def Wd.of (x : Int) : Wd := ⟨IntKind.u64.wrap x, by
  have : IntKind.u64.wrap x = x % 18446744073709551616 := rfl
  rw [this]; omega⟩
theorem Wd.of_in (x : Int) (h0 : 0 ≤ x) (h1 : x ≤ 18446744073709551615) : (Wd.of x).1 = x := by
  have : IntKind.u64.wrap x = x % 18446744073709551616 := rfl
  show IntKind.u64.wrap x = x
  rw [this]; omega
theorem Wd.val (x : Wd) : Wd.of x.1 = x := Subtype.ext (Wd.of_in _ x.2.1 x.2.2)
theorem Wd.free_iff (x : Wd) : x.free = true ↔ x.1 % 4 = 0 := by
  simp only [Wd.free, Wd.locked, Wd.dead, Bool.and_eq_true, Bool.not_eq_true', decide_eq_false_iff_not]
  omega
theorem Wd.held_iff (x : Wd) : x.held = true ↔ x.1 % 4 = 1 := by
  simp only [Wd.held, Wd.locked, Wd.dead, Bool.and_eq_true, Bool.not_eq_true', decide_eq_false_iff_not, decide_eq_true_eq]
  omega
/-- What a word is turned into, and whether it may be: 0 Drop, 1 Done, 2 Kill. -/
def Wd.lock (x : Wd) : Wd × Bool := if x.free then (Wd.of (x.1 + 1), true) else (x, false)
def Wd.drop (x : Wd) : Wd × Bool := if x.held then (Wd.of (x.1 - 1), true) else (x, false)
def Wd.done (x : Wd) : Wd × Bool := if x.held then (Wd.of (x.1 - 1 + 4), true) else (x, false)
def Wd.kill (x : Wd) : Wd × Bool := if x.held then (Wd.of ((Wd.of (x.1 - 1 + 4)).1 + 2), true) else (x, false)
def Wd.turn (x : Wd) (how : Nat) : Wd × Bool := match how with | 0 => x.drop | 1 => x.done | _ => x.kill
end Go.Burg.Lk
namespace Go.Proofs.Ytofkodfdgbjboaa
open Go.ChangeShapes Go.WideShapes Go.ChangeAt Go.RowKit Go.Burg
open Go.Burg.Lk
theorem blk_below {w w1 : World} {B b : Nat} {o : Obj} (h : w.heap[b]? = some o) (hb : Below B w w1) (hB : b < B) : w1.heap[b]? = some o := (hb.block b hB).trans h
theorem blk_alloc {w : World} {b : Nat} {o o' : Obj} (h : w.heap[b]? = some o) : (w.alloc o').heap[b]? = some o := (Below.heap_alloc _ _ _ (lt_of_block h)).trans h
theorem below_drewN {B n : Nat} {a b : World} (h : Below B a b) : Below B a (b.drewN n) := ⟨h.os, h.tape, h.output, h.size, h.block⟩
theorem mod_drewN {S : Nat → Prop} {n : Nat} {a b : World} (h : Mod S a b) : Mod S a (b.drewN n) := ⟨h.os, h.tape, h.output, h.size, h.block⟩
/-- A word's value. -/
def wV (x : Wd) : Value := .int .u64 x.1

theorem fldw (x : Value) (w : World) : Sem.run Try.prog (Instr.field 74 (.agg #[x]) 0) w = .ok (.agg #[x]) w := rfl
theorem of_any (x : Int) (w : World) : Calls Try.prog 45 #[.int .u64 x] w fun e w' => e = .returned (.agg #[.int .u64 x]) ∧ Below w.heap.size w w' := by
  go_enter Try.func45, Try.ntmps45
  go_wp2
  refine bodyPost_ret (v := .agg #[_]) (by simp [results, Try.results45, go_sem]) rfl ⟨rfl, ?_⟩
  (repeat (first | exact Below.refl _ _ | assumption | with_reducible refine Below.drew ?_ | with_reducible refine below_drewN ?_ | with_reducible refine Below.setCell ?_ (by first | (simp; done) | (simp; omega)) _ | with_reducible refine Below.alloc ?_ (by first | exact Nat.le_refl _ | (simp; done) | (simp; omega)) _))

theorem dead_any (x : Wd) (w : World) : Calls Try.prog 46 #[.agg #[.int .u64 x.1]] w fun e w' => e = .returned (.bool x.dead) ∧ Below w.heap.size w w' := by
  have hb := bit_and2 x.2.1 x.2.2
  have hc : (x.1 / 2 % 2 * 2 != 0) = x.dead := by unfold Wd.dead; rw [Bool.eq_iff_iff]; simp; omega
  go_enter Try.func46, Try.ntmps46
  go_wp2
  go_ret
  refine ⟨?_, ?_⟩
  · rfl
  · (repeat (first | exact Below.refl _ _ | assumption | with_reducible refine Below.drew ?_ | with_reducible refine below_drewN ?_ | with_reducible refine Below.setCell ?_ (by first | (simp; done) | (simp; omega)) _ | with_reducible refine Below.alloc ?_ (by first | exact Nat.le_refl _ | (simp; done) | (simp; omega)) _))

theorem locked_any (x : Wd) (w : World) : Calls Try.prog 47 #[.agg #[.int .u64 x.1]] w fun e w' => e = .returned (.bool x.locked) ∧ Below w.heap.size w w' := by
  have hb := bit_and1 x.2.1 x.2.2
  have hc : (x.1 % 2 != 0) = x.locked := by unfold Wd.locked; rw [Bool.eq_iff_iff]; simp; omega
  go_enter Try.func47, Try.ntmps47
  go_wp2
  go_ret
  refine ⟨?_, ?_⟩
  · rfl
  · (repeat (first | exact Below.refl _ _ | assumption | with_reducible refine Below.drew ?_ | with_reducible refine below_drewN ?_ | with_reducible refine Below.setCell ?_ (by first | (simp; done) | (simp; omega)) _ | with_reducible refine Below.alloc ?_ (by first | exact Nat.le_refl _ | (simp; done) | (simp; omega)) _))

theorem Dead_any (x : Wd) (w : World) : Calls Try.prog 27 #[.int .u64 x.1] w fun e w' => e = .returned (.bool x.dead) ∧ Below w.heap.size w w' := by
  go_enter Try.func27, Try.ntmps27
  go_wp2_with (go_at_call 45; refine (of_any _ _).mono ?_; rintro e w1 ⟨rfl, hb1⟩)
  simp only [fldw]
  go_wp2_with (go_at_call 46; refine (dead_any _ _).mono ?_; rintro e w2 ⟨rfl, hb2⟩)
  go_ret
  exact ⟨rfl, below_chain hb1 hb2 hb1.size⟩

theorem Locked_any (x : Wd) (w : World) : Calls Try.prog 28 #[.int .u64 x.1] w fun e w' => e = .returned (.bool x.locked) ∧ Below w.heap.size w w' := by
  go_enter Try.func28, Try.ntmps28
  go_wp2_with (go_at_call 45; refine (of_any _ _).mono ?_; rintro e w1 ⟨rfl, hb1⟩)
  simp only [fldw]
  go_wp2_with (go_at_call 47; refine (locked_any _ _).mono ?_; rintro e w2 ⟨rfl, hb2⟩)
  go_ret
  exact ⟨rfl, below_chain hb1 hb2 hb1.size⟩

theorem free_any (x : Wd) (w : World) : Calls Try.prog 50 #[.agg #[.int .u64 x.1]] w fun e w' => e = .returned (.bool x.free) ∧ Below w.heap.size w w' := by
  cases hl : x.locked <;> cases hd : x.dead <;> simp only [Wd.free, hl, hd]
  all_goals
    have HL := hid (fun w => locked_any x w)
    have HD := hid (fun w => dead_any x w)
    rw [hl] at HL
    rw [hd] at HD
    have hA := heap_new w (.cells #[.int .u64 x.1] 72)
    go_enter Try.func50, Try.ntmps50
    go_wp2_with (first | (go_at_call 47; refine (HL.out _).mono ?_; rintro e w1 ⟨rfl, hb1⟩; have hA1 := blk_below hA hb1 (by simp); have cA1 := cell_of hA1 0) | (go_at_call 46; refine (HD.out _).mono ?_; rintro e w2 ⟨rfl, hb2⟩))
    go_ret
    refine ⟨rfl, ?_⟩
    first | exact below_chain (below_chain ((Below.refl _ _).alloc (Nat.le_refl _) _) hb1 (by simp)) hb2 (Nat.le_trans (by simp) hb1.size) | exact below_chain ((Below.refl _ _).alloc (Nat.le_refl _) _) hb1 (by simp)
end Go.Proofs.Ytofkodfdgbjboaa
