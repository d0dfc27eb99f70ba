/- A slice of flat structs that came in, opened: its cells; a flat struct by value. -/
import Derived.Test.YtiddojegcbpafaaBase
import Derived.Deep.Slices
import Derived.Lib.SmallJoins
namespace Go.Burg
open Go Go.RowKit Go.ChangeShapes Go.WideShapes

section
variable {H : Type} {enc : TypeId × Value → H} {P : Program} {w : World} {base : Nat} {spare : Nat → Bool} {held : Bool}

/-- What is told of a slice that came in: element i holds the cells cs i, of which 'good' holds. -/
def FlatAt (w : World) (a : Option Addr) (len c : Nat) (good : List Value → Prop) : Prop :=
  0 < len → ∃ bl off, a = some ⟨bl, off, none⟩ ∧ bl < w.heap.size ∧ ∀ i, i < len → ∃ cs : List Value, good cs ∧ ∀ j, j < c → w.cell? ⟨bl, off + i * c + j, none⟩ = cs[j]?

theorem open_flat {t e : TypeId} {a : Option Addr} {len cap : Nat} {d : DataW H} {p : List MemPlace} (ht : P.underlying t = some (.slice e)) (hc : 0 < P.cellsOf e) (good : List Value → Prop)
    (hg : ∀ n cs x, DataW.trod enc P w base spare held n e cs = some x → good cs) (h : DataW.Trod enc P w base spare held t (.slice a len cap) d p) : FlatAt w a len (P.cellsOf e) good := by
  intro hlen
  obtain ⟨fuel, hf⟩ := h
  rcases Deep.open_slice ht hf with ⟨hcs, _⟩ | ⟨ad, len', cap', m, n, D, Pl, hcs, _, hl, _, hm, _, hall⟩
  · simp [Value.cells] at hcs
    omega
  · simp [Value.cells] at hcs
    obtain ⟨rfl, rfl, rfl⟩ := hcs
    have hlm : len ≤ m := by rw [hm]; split <;> omega
    have hcell : ∀ i, i < len → ∃ cs : List Value, good cs ∧ cs.length = P.cellsOf e ∧ ∀ j, j < P.cellsOf e → w.cell? ((ad.add (i * P.cellsOf e)).add j) = cs[j]? := fun i hi => by
      obtain ⟨cs', h1, h2⟩ := hall i (by omega)
      obtain ⟨_, h3, h4⟩ := World.cells?_some h1
      exact ⟨cs', hg _ _ _ h2, h3, h4⟩
    obtain ⟨cs0, _, hl0, h0⟩ := hcell 0 hlen
    have h00 := h0 0 hc
    obtain ⟨v, hv⟩ : ∃ v, cs0[0]? = some v := ⟨cs0[0], by simp [hl0, hc]⟩
    rw [hv] at h00
    have hsp := World.cell?_spot h00
    have hlt := World.block_lt_of_cell? _ _ h00
    obtain ⟨bl, off, spot⟩ := ad
    have hspot : spot = none := by simpa [Addr.add] using hsp
    subst hspot
    refine ⟨bl, off, rfl, by simpa [Addr.add] using hlt, fun i hi => ?_⟩
    obtain ⟨cs, g1, _, g3⟩ := hcell i hi
    refine ⟨cs, g1, fun j hj => ?_⟩
    have := g3 j hj
    rw [Deep.add_add] at this
    rw [← this]
    congr 1
    unfold Addr.add
    split
    · rename_i hz
      have h1 : i * P.cellsOf e = 0 := by omega
      have h2 : j = 0 := by omega
      rw [h1, h2]
      simp
    · simp [Nat.add_assoc]
end
end Go.Burg
