/- Locks in memory: their readers. -/
import Derived.Test.YtgdmfledhhoedaaKT1
import Derived.Test.YtgdmfledhhoedaaKeys
import Derived.Test.YtgdmfledhhoedaaMapIter
import Derived.Test.YtgdmfledhhoedaaTurn
import Derived.BigQuiet
namespace Go.Proofs.Ytgdmfledhhoedaa.K
set_option maxRecDepth 8000
open Go.ChangeShapes Go.WideShapes Go.ChangeAt Go.RowKit Go.Burg
open Go.Burg.Lk

/-- What stands at a key. -/
def lkp {α β : Type} [DecidableEq α] (l : List (α × β)) (k : α) : Option β := l.lookup k

/-- The block of locks. -/
def LBlk (mp : Option Nat) (tk : Int) : Obj := .cells #[.map mp, .int .i64 tk] 142 (0, 0)
/-- The locks in block b: their words in map block m, in the order in which they were made; how many were locked. -/
def LocksAt (w : World) (b m : Nat) (l : List (RefK × Wd)) (tk : Int) : Prop := w.heap[b]? = some (LBlk (some m) tk) ∧ MapOf refV wV w m l

theorem LocksAt.lt {w : World} {b m : Nat} {l : List (RefK × Wd)} {tk : Int} (h : LocksAt w b m l tk) : b < w.heap.size ∧ m < w.heap.size := ⟨lt_of_block h.1, h.2.lt⟩
theorem LocksAt.ne {w : World} {b m : Nat} {l : List (RefK × Wd)} {tk : Int} (h : LocksAt w b m l tk) : b ≠ m := fun e => by
  obtain ⟨es, c, h1, _⟩ := h.2
  have h2 := h.1
  subst e
  rw [h2] at h1
  cases h1
theorem LocksAt.below {w w' : World} {b m B : Nat} {l : List (RefK × Wd)} {tk : Int} (h : LocksAt w b m l tk) (hb : Below B w w') (h1 : b < B) (h2 : m < B) : LocksAt w' b m l tk := ⟨blk_below h.1 hb h1, h.2.below hb h2⟩
theorem LocksAt.keep {w w' : World} {b m : Nat} {l : List (RefK × Wd)} {tk : Int} (h : LocksAt w b m l tk) (hb : Below w.heap.size w w') : LocksAt w' b m l tk := h.below hb h.lt.1 h.lt.2
theorem LocksAt.alloc {w : World} {b m : Nat} {l : List (RefK × Wd)} {tk : Int} (h : LocksAt w b m l tk) (o : Obj) : LocksAt (w.alloc o) b m l tk := ⟨blk_alloc h.1, h.2.alloc o⟩
theorem LocksAt.mod {w w' : World} {b m : Nat} {l : List (RefK × Wd)} {tk : Int} {S : Nat → Prop} (h : LocksAt w b m l tk) (hM : Mod S w w') (h1 : ¬ S b) (h2 : ¬ S m) : LocksAt w' b m l tk := ⟨(hM.block b h.lt.1 h1).trans h.1, h.2.mod hM h2⟩
/-- What a deed with locks may turn. -/
def Own (b m : Nat) (i : Nat) : Prop := i = b ∨ i = m

theorem lfacts {w : World} {b : Nat} {mp : Option Nat} {tk : Int} (h : w.heap[b]? = some (LBlk mp tk)) :
    w.cell? ⟨b, 0, none⟩ = some (.map mp) ∧ w.cell? ⟨b, 1, none⟩ = some (.int .i64 tk) ∧ (∀ i, w.frozen? ⟨b, i, none⟩ = false) ∧ b < w.heap.size := by
  have hc := cell_of h
  exact ⟨hc 0, hc 1, free_of h, lt_of_block h⟩

/-- The word of a Ref. -/
theorem zeroWord (w : World) : (zeroValue 151).run Try.prog w = .ok (wV ⟨0, by omega, by omega⟩) w := by kernel_rfl
/-- 0. -/
def w0 : Wd := ⟨0, by omega, by omega⟩
theorem lk_run {w : World} {m : Nat} {l : List (RefK × Wd)} (h : MapOf refV wV w m l) (r : RefK) :
    (Instr.lookup 138 (.map (some m)) (.agg #[.int .i64 r.1.1, .int .u32 r.1.2]) true).run Try.prog w = .ok (.tuple #[.int .u64 ((lkp l r).getD w0).1, .bool (lkp l r).isSome]) w := by
  have := h.lookup refKey Try.underlying138 zeroWord r true
  cases ho : lkp l r <;> unfold lkp at ho <;> rw [ho] at this <;> exact this

theorem there_yes (b m : Nat) (tk : Int) (w : World) (h : w.heap[b]? = some (LBlk (some m) tk)) : Calls Try.prog 66 #[.pointer (some ⟨b, 0, none⟩)] w fun e w' => e = .returned (.bool true) ∧ w = w' := by
  obtain ⟨c0, c1, cf, cl⟩ := lfacts h
  have qT : ∀ (w : World) (r : Option Nat), (binOp .neq 138 (.map r) (.map none)).run Try.prog w = .ok (.bool (!r.isNone)) w := fun w r => run_neq_map_nil w _ _ _ r Try.underlying138
  go_enter Try.func66, Try.ntmps66
  go_wp2
  go_ret
  exact ⟨rfl, rfl⟩
theorem there_nil (w : World) : Calls Try.prog 66 #[.pointer none] w fun e w' => e = .returned (.bool false) ∧ w = w' := by
  have qT : ∀ (w : World) (r : Option Nat), (binOp .neq 138 (.map r) (.map none)).run Try.prog w = .ok (.bool (!r.isNone)) w := fun w r => run_neq_map_nil w _ _ _ r Try.underlying138
  go_enter Try.func66, Try.ntmps66
  go_wp2
  go_ret
  exact ⟨rfl, rfl⟩
theorem there_empty (b : Nat) (tk : Int) (w : World) (h : w.heap[b]? = some (LBlk none tk)) : Calls Try.prog 66 #[.pointer (some ⟨b, 0, none⟩)] w fun e w' => e = .returned (.bool false) ∧ w = w' := by
  obtain ⟨c0, c1, cf, cl⟩ := lfacts h
  have qT : ∀ (w : World) (r : Option Nat), (binOp .neq 138 (.map r) (.map none)).run Try.prog w = .ok (.bool (!r.isNone)) w := fun w r => run_neq_map_nil w _ _ _ r Try.underlying138
  go_enter Try.func66, Try.ntmps66
  go_wp2
  go_ret
  exact ⟨rfl, rfl⟩

section
variable {w : World} {b m : Nat} {l : List (RefK × Wd)} {tk : Int}

/-- What stands where a Ref's cell has been made. -/
theorem boxed (h : LocksAt w b m l tk) (r : RefK) : LocksAt (w.alloc (.cells #[.int .i64 r.1.1, .int .u32 r.1.2] 36)) b m l tk ∧ (w.alloc (.cells #[.int .i64 r.1.1, .int .u32 r.1.2] 36)).heap[w.heap.size]? = some (.cells #[.int .i64 r.1.1, .int .u32 r.1.2] 36) := ⟨h.alloc _, heap_new _ _⟩


/-- What Begin tells. -/
def beg (l : List (RefK × Wd)) (r : RefK) : Int × Int := match lkp l r with
  | none => (0, 2)
  | some x => (x.1, if x.dead then 2 else if x.locked then 1 else 0)

end
end Go.Proofs.Ytgdmfledhhoedaa.K
