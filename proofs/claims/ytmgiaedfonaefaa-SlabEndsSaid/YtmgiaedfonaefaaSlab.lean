/- A slab in memory: a block that holds the slice, and the cells' block. -/
import Derived.Test.YtmgiaedfonaefaaRows
import Derived.Test.YtmgiaedfonaefaaBase
import Derived.Test.YtmgiaedfonaefaaSeq
namespace Go.Burg
open Go Go.RowKit

theorem blk_below {w w1 : World} {B b : Nat} {o : Obj} (h : w.heap[b]? = some o) (hb : Below B w w1) (hB : b < B) : w1.heap[b]? = some o := (hb.block b hB).trans h
theorem blk_alloc {w : World} {b : Nat} {o o' : Obj} (h : w.heap[b]? = some o) : (w.alloc o').heap[b]? = some o := (Below.heap_alloc _ _ _ (lt_of_block h)).trans h

theorem below_drewN {B n : Nat} {a b : World} (h : Below B a b) : Below B a (b.drewN n) := by
  induction n with
  | zero => exact h
  | succ n ih => exact ih.drew

structure Cel (α : Type) where
  is : Bool
  x : α
  gen : Int

/-- Whether a place can be taken. -/
def Cel.room {α : Type} (c : Cel α) : Bool := !c.is && decide (c.gen < 4294967295)
/-- Which place is taken next: -1: none. -/
def First {α : Type} (l : List (Cel α)) (r : Int) : Prop :=
  (∃ (k : Nat) (c : Cel α), r = k ∧ l[k]? = some c ∧ c.room = true ∧ ∀ j, j < k → ∀ d : Cel α, l[j]? = some d → d.room = false) ∨ (r = -1 ∧ ∀ (j : Nat) (d : Cel α), l[j]? = some d → d.room = false)
theorem First.at {α : Type} {l : List (Cel α)} {r : Int} (h : First l r) {k : Nat} {c : Cel α} (hk : l[k]? = some c) (hc : c.room = true) (hb : ∀ j, j < k → ∀ d : Cel α, l[j]? = some d → d.room = false) : r = k := by
  rcases h with ⟨k', c', rfl, h1, h2, h3⟩ | ⟨_, h⟩
  · rcases Nat.lt_trichotomy k k' with h | rfl | h
    · rw [h3 k h c hk] at hc; cases hc
    · rfl
    · rw [hb k' h c' h1] at h2; cases h2
  · rw [h k c hk] at hc; cases hc
theorem First.none {α : Type} {l : List (Cel α)} {r : Int} (h : First l r) (hb : ∀ j, j < l.length → ∀ d : Cel α, l[j]? = some d → d.room = false) : r = -1 := by
  rcases h with ⟨k, c, rfl, h1, h2, _⟩ | ⟨h, _⟩
  · rw [hb k (List.getElem?_eq_some_iff.1 h1).1 c h1] at h2; cases h2
  · exact h

structure CellsAt {α : Type} (vf : α → Value) (tc : TypeId) (w : World) (g : Nat) (l : List (Cel α)) : Prop where
  hg : ∃ cs, w.heap[g]? = some (.cells cs tc (0, 0)) ∧ ∀ i c, l[i]? = some c → cs[i * 3]? = some (.bool c.is) ∧ cs[i * 3 + 1]? = some (vf c.x) ∧ cs[i * 3 + 2]? = some (.int .u32 c.gen)
  gen : ∀ c ∈ l, 0 ≤ c.gen ∧ c.gen ≤ 4294967295

structure SlabAt {α : Type} (vf : α → Value) (tc ts : TypeId) (w : World) (b g : Nat) (l : List (Cel α)) : Prop where
  hb : w.heap[b]? = some (.cells #[.slice (some ⟨g, 0, none⟩) l.length l.length] ts (0, 0))
  hc : CellsAt vf tc w g l
  ne : g ≠ b
  pos : 1 ≤ l.length
  top : l.length ≤ 4096

section
variable {α : Type} {vf : α → Value} {tc ts : TypeId} {w w' : World} {b g : Nat} {l : List (Cel α)}

theorem CellsAt.lt (h : CellsAt vf tc w g l) : g < w.heap.size := by
  obtain ⟨cs, h1, _⟩ := h.hg
  exact lt_of_block h1
theorem SlabAt.blt (h : SlabAt vf tc ts w b g l) : b < w.heap.size := lt_of_block h.hb
theorem SlabAt.glt (h : SlabAt vf tc ts w b g l) : g < w.heap.size := h.hc.lt

theorem CellsAt.same (h : CellsAt vf tc w g l) (e : w'.heap[g]? = w.heap[g]?) : CellsAt vf tc w' g l :=
  ⟨by obtain ⟨cs, h1, h2⟩ := h.hg; exact ⟨cs, e.trans h1, h2⟩, h.gen⟩
theorem SlabAt.same (h : SlabAt vf tc ts w b g l) (e1 : w'.heap[b]? = w.heap[b]?) (e2 : w'.heap[g]? = w.heap[g]?) : SlabAt vf tc ts w' b g l :=
  ⟨e1.trans h.hb, h.hc.same e2, h.ne, h.pos, h.top⟩
theorem SlabAt.keep (h : SlabAt vf tc ts w b g l) (k : Below w.heap.size w w') : SlabAt vf tc ts w' b g l :=
  h.same (k.block b h.blt) (k.block g h.glt)
theorem SlabAt.alloc (h : SlabAt vf tc ts w b g l) (o : Obj) : SlabAt vf tc ts (w.alloc o) b g l :=
  h.same (Below.heap_alloc _ _ _ h.blt) (Below.heap_alloc _ _ _ h.glt)
theorem SlabAt.mod {S : Nat → Prop} (h : SlabAt vf tc ts w b g l) (k : Mod S w w') (h1 : ¬ S b) (h2 : ¬ S g) : SlabAt vf tc ts w' b g l :=
  h.same (k.block b h.blt h1) (k.block g h.glt h2)

/-- What stands in cell i. -/
theorem CellsAt.cell (h : CellsAt vf tc w g l) {i : Nat} {c : Cel α} (hi : l[i]? = some c) :
    w.cell? ⟨g, i * 3, none⟩ = some (.bool c.is) ∧ w.cell? ⟨g, i * 3 + 1, none⟩ = some (vf c.x) ∧ w.cell? ⟨g, i * 3 + 2, none⟩ = some (.int .u32 c.gen) ∧ (∀ j, w.frozen? ⟨g, j, none⟩ = false) ∧ 0 ≤ c.gen ∧ c.gen ≤ 4294967295 := by
  obtain ⟨cs, h1, h2⟩ := h.hg
  have hc := cell_of h1
  obtain ⟨a1, a2, a3⟩ := h2 i c hi
  have hgen := h.gen c (List.mem_of_getElem? hi)
  exact ⟨(hc _).trans a1, (hc _).trans a2, (hc _).trans a3, free_of h1, hgen⟩

/-- The slab's own cell. -/
theorem SlabAt.head (h : SlabAt vf tc ts w b g l) : w.cell? ⟨b, 0, none⟩ = some (.slice (some ⟨g, 0, none⟩) l.length l.length) ∧ w.frozen? ⟨b, 0, none⟩ = false := ⟨cell_of h.hb 0, free_of h.hb 0⟩

theorem set_get {cs : Array Value} {i j : Nat} {v : Value} : (cs.setIfInBounds i v)[j]? = if i = j then (if i < cs.size then some v else none) else cs[j]? := by
  rw [Array.getElem?_setIfInBounds]
  

/-- All three cells of a place are stored. -/
theorem CellsAt.put3 (h : CellsAt vf tc w g l) {i : Nat} {c : Cel α} (hi : l[i]? = some c) (is : Bool) (x : α) (gen : Int) (h0 : 0 ≤ gen ∧ gen ≤ 4294967295) :
    CellsAt vf tc (((w.setCell ⟨g, i * 3, none⟩ (.bool is)).setCell ⟨g, i * 3 + 1, none⟩ (vf x)).setCell ⟨g, i * 3 + 2, none⟩ (.int .u32 gen)) g (l.set i ⟨is, x, gen⟩) := by
  obtain ⟨cs, h1, h2⟩ := h.hg
  refine ⟨⟨_, heap_set (heap_set (heap_set h1)), fun j d hj => ?_⟩, fun d hd => ?_⟩
  · have hil : i < l.length := (List.getElem?_eq_some_iff.1 hi).1
    obtain ⟨a1, a2, a3⟩ := h2 i c hi
    have s3 : i * 3 + 2 < cs.size := (Array.getElem?_eq_some_iff.1 a3).1
    by_cases hij : i = j
    · subst hij
      rw [List.getElem?_set_self hil] at hj
      cases hj
      refine ⟨?_, ?_, ?_⟩ <;> simp [set_get] <;> omega
    · rw [List.getElem?_set_ne hij] at hj
      obtain ⟨b1, b2, b3⟩ := h2 j d hj
      refine ⟨?_, ?_, ?_⟩
      · rw [set_get, if_neg (by omega), set_get, if_neg (by omega), set_get, if_neg (by omega)]; exact b1
      · rw [set_get, if_neg (by omega), set_get, if_neg (by omega), set_get, if_neg (by omega)]; exact b2
      · rw [set_get, if_neg (by omega), set_get, if_neg (by omega), set_get, if_neg (by omega)]; exact b3
  · rcases List.mem_or_eq_of_mem_set hd with hd | rfl
    · exact h.gen d hd
    · exact h0

/-- A place's value alone is stored. -/
theorem CellsAt.put1 (h : CellsAt vf tc w g l) {i : Nat} {c : Cel α} (hi : l[i]? = some c) (x : α) :
    CellsAt vf tc (w.setCell ⟨g, i * 3 + 1, none⟩ (vf x)) g (l.set i ⟨c.is, x, c.gen⟩) := by
  obtain ⟨cs, h1, h2⟩ := h.hg
  refine ⟨⟨_, heap_set h1, fun j d hj => ?_⟩, fun d hd => ?_⟩
  · have hil : i < l.length := (List.getElem?_eq_some_iff.1 hi).1
    obtain ⟨a1, a2, a3⟩ := h2 i c hi
    have s3 : i * 3 + 2 < cs.size := (Array.getElem?_eq_some_iff.1 a3).1
    by_cases hij : i = j
    · subst hij
      rw [List.getElem?_set_self hil] at hj
      cases hj
      refine ⟨?_, ?_, ?_⟩
      · rw [set_get, if_neg (by omega)]; exact a1
      · rw [set_get, if_pos rfl, if_pos (by omega)]
      · rw [set_get, if_neg (by omega)]; exact a3
    · rw [List.getElem?_set_ne hij] at hj
      obtain ⟨b1, b2, b3⟩ := h2 j d hj
      refine ⟨?_, ?_, ?_⟩
      · rw [set_get, if_neg (by omega)]; exact b1
      · rw [set_get, if_neg (by omega)]; exact b2
      · rw [set_get, if_neg (by omega)]; exact b3
  · rcases List.mem_or_eq_of_mem_set hd with hd | rfl
    · exact h.gen d hd
    · exact h.gen c (List.mem_of_getElem? hi)

theorem SlabAt.turn (h : SlabAt vf tc ts w b g l) {l' : List (Cel α)} (hc : CellsAt vf tc w' g l') (hl : l'.length = l.length) (k : Mod (· = g) w w') : SlabAt vf tc ts w' b g l' :=
  ⟨by rw [hl]; exact (k.block b h.blt (fun e => h.ne e.symm)).trans h.hb, hc, h.ne, by rw [hl]; exact h.pos, by rw [hl]; exact h.top⟩
end
end Go.Burg
