/- A slab in memory whose slice has a capacity of its own. -/
import Derived.Test.YtmgiaedfonaefaaSlab
namespace Go.Burg
open Go Go.RowKit

structure SlabC {α : Type} (vf : α → Value) (tc ts : TypeId) (w : World) (b g cp : Nat) (l : List (Cel α)) : Prop where
  hb : w.heap[b]? = some (.cells #[.slice (some ⟨g, 0, none⟩) l.length cp] ts (0, 0))
  hc : CellsAt vf tc w g l
  ne : g ≠ b
  pos : 1 ≤ l.length
  top : l.length ≤ 4096
  cap : l.length ≤ cp

section
variable {α : Type} {vf : α → Value} {tc ts : TypeId} {w w' : World} {b g cp : Nat} {l : List (Cel α)}
theorem SlabC.blt (h : SlabC vf tc ts w b g cp l) : b < w.heap.size := lt_of_block h.hb
theorem SlabC.glt (h : SlabC vf tc ts w b g cp l) : g < w.heap.size := h.hc.lt
theorem SlabC.same (h : SlabC vf tc ts w b g cp l) (e1 : w'.heap[b]? = w.heap[b]?) (e2 : w'.heap[g]? = w.heap[g]?) : SlabC vf tc ts w' b g cp l :=
  ⟨e1.trans h.hb, h.hc.same e2, h.ne, h.pos, h.top, h.cap⟩
theorem SlabC.keep (h : SlabC vf tc ts w b g cp l) (k : Below w.heap.size w w') : SlabC vf tc ts w' b g cp l :=
  h.same (k.block b h.blt) (k.block g h.glt)
theorem SlabC.alloc (h : SlabC vf tc ts w b g cp l) (o : Obj) : SlabC vf tc ts (w.alloc o) b g cp l :=
  h.same (Below.heap_alloc _ _ _ h.blt) (Below.heap_alloc _ _ _ h.glt)
theorem SlabC.mod {S : Nat → Prop} (h : SlabC vf tc ts w b g cp l) (k : Mod S w w') (h1 : ¬ S b) (h2 : ¬ S g) : SlabC vf tc ts w' b g cp l :=
  h.same (k.block b h.blt h1) (k.block g h.glt h2)
theorem SlabC.head (h : SlabC vf tc ts w b g cp l) : w.cell? ⟨b, 0, none⟩ = some (.slice (some ⟨g, 0, none⟩) l.length cp) ∧ w.frozen? ⟨b, 0, none⟩ = false := ⟨cell_of h.hb 0, free_of h.hb 0⟩
theorem SlabC.turn (h : SlabC vf tc ts w b g cp l) {l' : List (Cel α)} (hc : CellsAt vf tc w' g l') (hl : l'.length = l.length) (k : Mod (· = g) w w') : SlabC vf tc ts w' b g cp l' :=
  ⟨by rw [hl]; exact (k.block b h.blt (fun e => h.ne e.symm)).trans h.hb, hc, h.ne, by rw [hl]; exact h.pos, by rw [hl]; exact h.top, by rw [hl]; exact h.cap⟩
theorem SlabAt.toC (h : SlabAt vf tc ts w b g l) : SlabC vf tc ts w b g l.length l := ⟨h.hb, h.hc, h.ne, h.pos, h.top, Nat.le_refl _⟩
end
end Go.Burg
