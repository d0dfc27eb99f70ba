/- A slab of a tree's places in memory: rows of ten cells. -/
import Derived.Test.YtgdmfledhhoedaaRows
import Derived.Test.YtgdmfledhhoedaaBase
import Derived.Test.YtgdmfledhhoedaaSeq
import Derived.Deep.QuietTactic
namespace Go.Burg
open Go Go.RowKit

theorem blk_below {w w1 : World} {B b : Nat} {o : Obj} (h : w.heap[b]? = some o) (hb : Below B w w1) (hB : b < B) : w1.heap[b]? = some o := (hb.block b hB).trans h
theorem blk_alloc {w : World} {b : Nat} {o o' : Obj} (h : w.heap[b]? = some o) : (w.alloc o').heap[b]? = some o := (Below.heap_alloc _ _ _ (lt_of_block h)).trans h
theorem below_drewN {B n : Nat} {a b : World} (h : Below B a b) : Below B a (b.drewN n) := ⟨h.os, h.tape, h.output, h.size, h.block⟩

structure Cel (α : Type) where
  is : Bool
  x : α
  gen : Int

/-- A slice's header. -/
structure Sl where
  a : Option Addr
  n : Nat
  c : Nat
/-- What a tree's place has. -/
structure Nd where
  kind : Int
  code : ByteArray
  value : ByteArray
  path : ByteArray
  bytes : Sl
  kids : Sl
  planted : Bool
  died : Bool
def Nd.V (x : Nd) : Value := (.agg #[.int .i64 x.kind, .string x.code, .string x.value, .string x.path, .slice x.bytes.a x.bytes.n x.bytes.c, .slice x.kids.a x.kids.n x.kids.c, .bool x.planted, .bool x.died])
def Nd.zero : Nd := ⟨0, ⟨#[]⟩, ⟨#[]⟩, ⟨#[]⟩, ⟨none, 0, 0⟩, ⟨none, 0, 0⟩, false, false⟩

/-- Whether a place can be taken. -/
def Cel.room {α : Type} (c : Cel α) : Bool := !c.is && decide (c.gen < 4294967295)
/-- Which place is taken next: -1: none. -/
def First {α : Type} (l : List (Cel α)) (r : Int) : Prop :=
  (∃ (k : Nat) (c : Cel α), r = k ∧ l[k]? = some c ∧ c.room = true ∧ ∀ j, j < k → ∀ d : Cel α, l[j]? = some d → d.room = false) ∨ (r = -1 ∧ ∀ (j : Nat) (d : Cel α), l[j]? = some d → d.room = false)
theorem First.at {α : Type} {l : List (Cel α)} {r : Int} (h : First l r) {k : Nat} {c : Cel α} (hk : l[k]? = some c) (hc : c.room = true) (hb : ∀ j, j < k → ∀ d : Cel α, l[j]? = some d → d.room = false) : r = k := by
  rcases h with ⟨k', c', rfl, h1, h2, h3⟩ | ⟨_, h⟩
  · rcases Nat.lt_trichotomy k k' with h | rfl | h
    · rw [h3 k h c hk] at hc; cases hc
    · rfl
    · rw [hb k' h c' h1] at h2; cases h2
  · rw [h k c hk] at hc; cases hc
theorem First.none {α : Type} {l : List (Cel α)} {r : Int} (h : First l r) (hb : ∀ j, j < l.length → ∀ d : Cel α, l[j]? = some d → d.room = false) : r = -1 := by
  rcases h with ⟨k, c, rfl, h1, h2, _⟩ | ⟨h, _⟩
  · rw [hb k (List.getElem?_eq_some_iff.1 h1).1 c h1] at h2; cases h2
  · exact h

/-- The ten cells of a place. -/
def NRow (c : Cel Nd) : List Value := [.bool c.is, .int .i64 c.x.kind, .string c.x.code, .string c.x.value, .string c.x.path, (.slice c.x.bytes.a c.x.bytes.n c.x.bytes.c), (.slice c.x.kids.a c.x.kids.n c.x.kids.c), .bool c.x.planted, .bool c.x.died, .int .u32 c.gen]

structure CellsN (tc : TypeId) (w : World) (g : Nat) (l : List (Cel Nd)) : Prop where
  hg : ∃ cs, w.heap[g]? = some (.cells cs tc (0, 0)) ∧ ∀ i c, l[i]? = some c → ∀ j, j < 10 → cs[i * 10 + j]? = (NRow c)[j]?
  gen : ∀ c ∈ l, 0 ≤ c.gen ∧ c.gen ≤ 4294967295

structure SlabN (tc ts : TypeId) (w : World) (b g : Nat) (l : List (Cel Nd)) : Prop where
  hb : w.heap[b]? = some (.cells #[.slice (some ⟨g, 0, none⟩) l.length l.length] ts (0, 0))
  hc : CellsN tc w g l
  ne : g ≠ b
  pos : 1 ≤ l.length
  top : l.length ≤ 4096

section
variable {tc ts : TypeId} {w w' : World} {b g : Nat} {l : List (Cel Nd)}

theorem CellsN.lt (h : CellsN tc w g l) : g < w.heap.size := by
  obtain ⟨cs, h1, _⟩ := h.hg
  exact lt_of_block h1
theorem SlabN.blt (h : SlabN tc ts w b g l) : b < w.heap.size := lt_of_block h.hb
theorem SlabN.glt (h : SlabN tc ts w b g l) : g < w.heap.size := h.hc.lt

theorem CellsN.same (h : CellsN tc w g l) (e : w'.heap[g]? = w.heap[g]?) : CellsN tc w' g l :=
  ⟨by obtain ⟨cs, h1, h2⟩ := h.hg; exact ⟨cs, e.trans h1, h2⟩, h.gen⟩
theorem SlabN.same (h : SlabN tc ts w b g l) (e1 : w'.heap[b]? = w.heap[b]?) (e2 : w'.heap[g]? = w.heap[g]?) : SlabN tc ts w' b g l :=
  ⟨e1.trans h.hb, h.hc.same e2, h.ne, h.pos, h.top⟩
theorem SlabN.keep (h : SlabN tc ts w b g l) (k : Below w.heap.size w w') : SlabN tc ts w' b g l :=
  h.same (k.block b h.blt) (k.block g h.glt)
theorem SlabN.below {B : Nat} (h : SlabN tc ts w b g l) (k : Below B w w') (h1 : b < B) (h2 : g < B) : SlabN tc ts w' b g l :=
  h.same (k.block b h1) (k.block g h2)
theorem SlabN.alloc (h : SlabN tc ts w b g l) (o : Obj) : SlabN tc ts (w.alloc o) b g l :=
  h.same (Below.heap_alloc _ _ _ h.blt) (Below.heap_alloc _ _ _ h.glt)
theorem SlabN.mod {S : Nat → Prop} (h : SlabN tc ts w b g l) (k : Mod S w w') (h1 : ¬ S b) (h2 : ¬ S g) : SlabN tc ts w' b g l :=
  h.same (k.block b h.blt h1) (k.block g h.glt h2)

/-- What stands in the cells of place i. -/
theorem CellsN.cell (h : CellsN tc w g l) {i : Nat} {c : Cel Nd} (hi : l[i]? = some c) :
    (w.cell? ⟨g, i * 10, none⟩ = some (.bool c.is) ∧ w.cell? ⟨g, i * 10 + 1, none⟩ = some (.int .i64 c.x.kind) ∧ w.cell? ⟨g, i * 10 + 2, none⟩ = some (.string c.x.code) ∧ w.cell? ⟨g, i * 10 + 3, none⟩ = some (.string c.x.value) ∧ w.cell? ⟨g, i * 10 + 4, none⟩ = some (.string c.x.path) ∧ w.cell? ⟨g, i * 10 + 5, none⟩ = some (.slice c.x.bytes.a c.x.bytes.n c.x.bytes.c) ∧ w.cell? ⟨g, i * 10 + 6, none⟩ = some (.slice c.x.kids.a c.x.kids.n c.x.kids.c) ∧ w.cell? ⟨g, i * 10 + 7, none⟩ = some (.bool c.x.planted) ∧ w.cell? ⟨g, i * 10 + 8, none⟩ = some (.bool c.x.died) ∧ w.cell? ⟨g, i * 10 + 9, none⟩ = some (.int .u32 c.gen)) ∧ (∀ j, w.frozen? ⟨g, j, none⟩ = false) ∧ 0 ≤ c.gen ∧ c.gen ≤ 4294967295 := by
  obtain ⟨cs, h1, h2⟩ := h.hg
  have hc := cell_of h1
  have h3 := h2 i c hi
  have hgen := h.gen c (List.mem_of_getElem? hi)
  exact ⟨⟨(hc _).trans (h3 0 (by omega)), (hc _).trans (h3 1 (by omega)), (hc _).trans (h3 2 (by omega)), (hc _).trans (h3 3 (by omega)), (hc _).trans (h3 4 (by omega)), (hc _).trans (h3 5 (by omega)), (hc _).trans (h3 6 (by omega)), (hc _).trans (h3 7 (by omega)), (hc _).trans (h3 8 (by omega)), (hc _).trans (h3 9 (by omega))⟩, free_of h1, hgen⟩

/-- The slab's own cell. -/
theorem SlabN.head (h : SlabN tc ts w b g l) : w.cell? ⟨b, 0, none⟩ = some (.slice (some ⟨g, 0, none⟩) l.length l.length) ∧ w.frozen? ⟨b, 0, none⟩ = false := ⟨cell_of h.hb 0, free_of h.hb 0⟩

theorem set_get {cs : Array Value} {i j : Nat} {v : Value} : (cs.setIfInBounds i v)[j]? = if i = j then (if i < cs.size then some v else none) else cs[j]? := by
  rw [Array.getElem?_setIfInBounds]

/-- All ten cells of a place are stored. -/
theorem CellsN.put (h : CellsN tc w g l) {i : Nat} {c : Cel Nd} (hi : l[i]? = some c) (d : Cel Nd) (h0 : 0 ≤ d.gen ∧ d.gen ≤ 4294967295) :
    CellsN tc ((((((((((w.setCell ⟨g, i * 10, none⟩ (.bool d.is)).setCell ⟨g, i * 10 + 1, none⟩ (.int .i64 d.x.kind)).setCell ⟨g, i * 10 + 2, none⟩ (.string d.x.code)).setCell ⟨g, i * 10 + 3, none⟩ (.string d.x.value)).setCell ⟨g, i * 10 + 4, none⟩ (.string d.x.path)).setCell ⟨g, i * 10 + 5, none⟩ (.slice d.x.bytes.a d.x.bytes.n d.x.bytes.c)).setCell ⟨g, i * 10 + 6, none⟩ (.slice d.x.kids.a d.x.kids.n d.x.kids.c)).setCell ⟨g, i * 10 + 7, none⟩ (.bool d.x.planted)).setCell ⟨g, i * 10 + 8, none⟩ (.bool d.x.died)).setCell ⟨g, i * 10 + 9, none⟩ (.int .u32 d.gen)) g (l.set i d) := by
  obtain ⟨cs, h1, h2⟩ := h.hg
  refine ⟨⟨_, heap_set (heap_set (heap_set (heap_set (heap_set (heap_set (heap_set (heap_set (heap_set (heap_set h1))))))))), fun j e hj k hk => ?_⟩, fun d hd => ?_⟩
  · have hil : i < l.length := (List.getElem?_eq_some_iff.1 hi).1
    have a9 : cs[i * 10 + 9]? = some (.int .u32 c.gen) := h2 i c hi 9 (by omega)
    have s3 : i * 10 + 9 < cs.size := (Array.getElem?_eq_some_iff.1 a9).1
    by_cases hij : i = j
    · subst hij
      rw [List.getElem?_set_self hil] at hj
      cases hj
      rcases (by omega : k = 0 ∨ k = 1 ∨ k = 2 ∨ k = 3 ∨ k = 4 ∨ k = 5 ∨ k = 6 ∨ k = 7 ∨ k = 8 ∨ k = 9) with rfl | rfl | rfl | rfl | rfl | rfl | rfl | rfl | rfl | rfl <;> simp [set_get, NRow] <;> omega
    · rw [List.getElem?_set_ne hij] at hj
      have b1 := h2 j e hj k hk
      rw [← b1]
      iterate 10 rw [set_get, if_neg (by omega)]
  · rcases List.mem_or_eq_of_mem_set hd with hd | rfl
    · exact h.gen d hd
    · exact h0

theorem SlabN.turn (h : SlabN tc ts w b g l) {l' : List (Cel Nd)} (hc : CellsN tc w' g l') (hl : l'.length = l.length) (k : Mod (· = g) w w') : SlabN tc ts w' b g l' :=
  ⟨by rw [hl]; exact (k.block b h.blt (fun e => h.ne e.symm)).trans h.hb, hc, h.ne, by rw [hl]; exact h.pos, by rw [hl]; exact h.top⟩
end
end Go.Burg
