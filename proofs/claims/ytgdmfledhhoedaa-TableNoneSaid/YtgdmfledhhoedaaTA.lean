/- The tree: take, Plant, New. -/
import Derived.Test.YtgdmfledhhoedaaT4
import Derived.Test.YtgdmfledhhoedaaN2
import Derived.Test.YtgdmfledhhoedaaN3
import Derived.Test.YtgdmfledhhoedaaKT5
import Derived.Deep.RegionWith
namespace Go.Proofs.Ytgdmfledhhoedaa.T
set_option maxRecDepth 8000
open Go.ChangeShapes Go.WideShapes Go.ChangeAt Go.RowKit Go.Burg
open Go.Burg.Lk

/-- A tree in block t: its slab (block sb, places in block sg: l), its locks (block kb, words in block km: L). -/
structure TreeAt (w : World) (t sb sg kb km : Nat) (l : List (Cel Nd)) (L : List (RefK × Wd)) : Prop where
  ht : w.heap[t]? = some (.cells #[.pointer (some ⟨sb, 0, none⟩), .pointer (some ⟨kb, 0, none⟩)] 103 (0, 0))
  hs : SlabN 148 137 w sb sg l
  hk : K.LocksAt w kb km L 0

theorem ne_of {w : World} {a b : Nat} {o p : Obj} (ha : w.heap[a]? = some o) (hb : w.heap[b]? = some p) (h : o ≠ p) : a ≠ b := fun e => by
  subst e
  rw [ha] at hb
  exact h (Option.some.inj hb)

section
variable {w w' : World} {t sb sg kb km : Nat} {l : List (Cel Nd)} {L : List (RefK × Wd)}
theorem TreeAt.keep (h : TreeAt w t sb sg kb km l L) (hb : Below w.heap.size w w') : TreeAt w' t sb sg kb km l L := ⟨blk_below h.ht hb (lt_of_block h.ht), h.hs.keep hb, h.hk.keep hb⟩
theorem TreeAt.alloc (h : TreeAt w t sb sg kb km l L) (o : Obj) : TreeAt (w.alloc o) t sb sg kb km l L := ⟨blk_alloc h.ht, h.hs.alloc o, h.hk.alloc o⟩
theorem TreeAt.mod {S : Nat → Prop} (h : TreeAt w t sb sg kb km l L) (hM : Mod S w w') (h1 : ¬ S t) (h2 : ¬ S sb) (h3 : ¬ S sg) (h4 : ¬ S kb) (h5 : ¬ S km) : TreeAt w' t sb sg kb km l L :=
  ⟨(hM.block t (lt_of_block h.ht) h1).trans h.ht, h.hs.mod hM h2 h3, h.hk.mod hM h4 h5⟩
/-- Its blocks are five. -/
theorem TreeAt.ne (h : TreeAt w t sb sg kb km l L) : t ≠ sg ∧ t ≠ km ∧ sb ≠ km ∧ sb ≠ sg ∧ kb ≠ sg ∧ kb ≠ km ∧ sg ≠ km := by
  obtain ⟨cs, hg, _⟩ := h.hs.hc.hg
  obtain ⟨es, c, hm, _⟩ := h.hk.2
  exact ⟨ne_of h.ht hg (by simp), ne_of h.ht hm (by simp), ne_of h.hs.hb hm (by simp), ne_of h.hs.hb hg (by simp), ne_of h.hk.1 hg (by simp [K.LBlk]), ne_of h.hk.1 hm (by simp [K.LBlk]), ne_of hg hm (by simp)⟩
end
/-- What a new place turns. -/
def TOwn (sg km : Nat) (i : Nat) : Prop := i = sg ∨ i = km
end Go.Proofs.Ytgdmfledhhoedaa.T
