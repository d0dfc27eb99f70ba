/- The table in memory: there, of. -/
import Derived.Test.YtgdmfledhhoedaaT2
import Derived.Test.YtgdmfledhhoedaaAnc
namespace Go.Burg
open Go Go.RowKit
/-- A tenant: its generation, its anchor (place, generation), its purse's block. -/
structure Ten where
  gen : Int
  slot : Int
  agen : Int
  purse : Option Nat
def Ten.zero : Ten := ⟨0, 0, 0, none⟩
/-- A tenant's four cells. -/
def TRow (t : Ten) : List Value := [.int .u32 t.gen, .int .i64 t.slot, .int .u32 t.agen, .pointer (t.purse.map fun b => ⟨b, 0, none⟩)]
/-- A table in block x, of the tree in block t, with the tenants l. -/
def TabAt (tt : TypeId) (w : World) (x t : Nat) (l : Nat → Ten) : Prop :=
  ∃ cs, w.heap[x]? = some (.cells cs tt (0, 0)) ∧ cs[0]? = some (.pointer (some ⟨t, 0, none⟩)) ∧ ∀ i, i < 17 → ∀ j, j < 4 → cs[1 + i * 4 + j]? = (TRow (l i))[j]?
section
variable {tt : TypeId} {w w' : World} {x t : Nat} {l : Nat → Ten}
theorem TabAt.lt (h : TabAt tt w x t l) : x < w.heap.size := by
  obtain ⟨cs, h1, _⟩ := h
  exact lt_of_block h1
theorem TabAt.same (h : TabAt tt w x t l) (e : w'.heap[x]? = w.heap[x]?) : TabAt tt w' x t l := by
  obtain ⟨cs, h1, h2⟩ := h
  exact ⟨cs, e.trans h1, h2⟩
theorem TabAt.keep (h : TabAt tt w x t l) (k : Below w.heap.size w w') : TabAt tt w' x t l := h.same (k.block x h.lt)
theorem TabAt.below {B : Nat} (h : TabAt tt w x t l) (k : Below B w w') (h1 : x < B) : TabAt tt w' x t l := h.same (k.block x h1)
theorem TabAt.alloc (h : TabAt tt w x t l) (o : Obj) : TabAt tt (w.alloc o) x t l := h.same (Below.heap_alloc _ _ _ h.lt)
theorem TabAt.mod {S : Nat → Prop} (h : TabAt tt w x t l) (k : Mod S w w') (h1 : ¬ S x) : TabAt tt w' x t l := h.same (k.block x h.lt h1)
/-- What stands in the cells. -/
theorem TabAt.head (h : TabAt tt w x t l) : w.cell? ⟨x, 0, none⟩ = some (.pointer (some ⟨t, 0, none⟩)) ∧ ∀ j, w.frozen? ⟨x, j, none⟩ = false := by
  obtain ⟨cs, h1, h2, _⟩ := h
  exact ⟨(cell_of h1 0).trans h2, free_of h1⟩
theorem TabAt.cell (h : TabAt tt w x t l) {n : Nat} (hn : n < 17) :
    w.cell? ⟨x, 1 + n * 4, none⟩ = some (.int .u32 (l n).gen) ∧ w.cell? ⟨x, 1 + n * 4 + 1, none⟩ = some (.int .i64 (l n).slot) ∧ w.cell? ⟨x, 1 + n * 4 + 2, none⟩ = some (.int .u32 (l n).agen) ∧ w.cell? ⟨x, 1 + n * 4 + 3, none⟩ = some (.pointer ((l n).purse.map fun b => ⟨b, 0, none⟩)) := by
  obtain ⟨cs, h1, _, h3⟩ := h
  have hc := cell_of h1
  have h4 := h3 n hn
  exact ⟨(hc _).trans (h4 0 (by omega)), (hc _).trans (h4 1 (by omega)), (hc _).trans (h4 2 (by omega)), (hc _).trans (h4 3 (by omega))⟩
end
end Go.Burg
namespace Go.Proofs.Ytgdmfledhhoedaa.T
set_option maxRecDepth 8000
open Go.ChangeShapes Go.WideShapes Go.ChangeAt Go.RowKit Go.Burg

theorem bmade_at {x t : Nat} {l : Nat → Ten} (w : World) (h : TabAt 42 w x t l) : Calls Try.prog 52 #[.pointer (some ⟨x, 0, none⟩)] w fun e w' => e = .returned (.bool true) ∧ w = w' := by
  obtain ⟨c0, cf⟩ := h.head
  go_enter Try.func52, Try.ntmps52
  go_wp2
  go_ret
  exact ⟨rfl, rfl⟩

theorem there_at {x t : Nat} {l : Nat → Ten} (w : World) (h : TabAt 42 w x t l) : Calls Try.prog 36 #[.pointer (some ⟨x, 0, none⟩)] w fun e w' => e = .returned (.bool true) ∧ w = w' := by
  go_enter Try.func36, Try.ntmps36
  go_wp2_with (go_at_call 52; refine (bmade_at _ h).mono ?_; rintro e w2 ⟨rfl, rfl⟩)
  go_ret
  exact ⟨rfl, rfl⟩

theorem tmade_at {t : Nat} {a b : Nat} (w : World) (h : w.heap[t]? = some (.cells #[.pointer (some ⟨a, 0, none⟩), .pointer (some ⟨b, 0, none⟩)] 103 (0, 0))) : Calls Try.prog 41 #[.pointer (some ⟨t, 0, none⟩)] w fun e w' => e = .returned (.bool true) ∧ w = w' := by
  have c0 := cell_of h 0
  go_enter Try.func41, Try.ntmps41
  go_wp2
  go_ret
  exact ⟨rfl, rfl⟩

/-- of: no tenant. -/
theorem of_none {x t n : Nat} {l : Nat → Ten} (f : Value) (w : World) (h : TabAt 42 w x t l) (h1 : 1 ≤ n) (h2 : n ≤ 16) (hp : (l n).purse = none) :
    Calls Try.prog 17 #[.pointer (some ⟨x, 0, none⟩), .int .i64 n, f] w fun e w' => e = .returned (.int .i64 5) ∧ w = w' := by
  have HT := hid (there_at w h)
  obtain ⟨_, cf⟩ := h.head
  obtain ⟨c0, c1, c2, c3⟩ := h.cell (show n < 17 by omega)
  rw [hp] at c3
  simp only [Option.map_none] at c3
  clear c0 c1 c2 hp h
  have g1 : decide ((n : Int) < 1) = false := by simp; omega
  have g2 : decide ((n : Int) > 16) = false := by simp; omega
  go_enter Try.func17, Try.ntmps17
  go_wp2_with (go_at_call 36; refine HT.out.mono ?_; rintro e w2 ⟨rfl, rfl⟩)
  go_ret
  exact ⟨rfl, rfl⟩
end Go.Proofs.Ytgdmfledhhoedaa.T
