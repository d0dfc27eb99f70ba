/- The law's does: a deed with the locks and with the reference. -/
import Derived.Test.YtofkodfdgbjboaaLR6
namespace Go.Proofs.Ytofkodfdgbjboaa
open Go.ChangeShapes Go.WideShapes Go.ChangeAt Go.RowKit Go.Burg
open Go.Burg.Lk

/-- What does may turn. -/
def DOwn (b m p : Nat) (rv wv : Value) (i : Nat) : Prop := Own b m i ∨ ROwn p rv wv i

/-- The two, and the deed's cell, on the way. -/
structure Both (w : World) (b m p n : Nat) (d : LDeed) (rv0 wv0 rv wv : Value) (la : List (RefK × Wd)) (ta : Int) (lr : List (RefK × Wd)) (tr : Int) (w1 : World) : Prop where
  lk : LocksAt w1 b m la ta
  rf : RAt w1 p rv wv lr tr
  cell : w1.heap[n]? = some (.cells #[.int .i64 d.what, .int .i64 d.ref.1.1, .int .u32 d.ref.1.2, .int .u64 d.w.1] 38)
  mod : Mod (DOwn b m p rv0 wv0) w w1
  nr : ∀ g, rv.ownBlock = some g → rv0.ownBlock = some g ∨ w.heap.size ≤ g
  nw : ∀ g, wv.ownBlock = some g → wv0.ownBlock = some g ∨ w.heap.size ≤ g

section
variable {w w1 w2 : World} {b m p n : Nat} {d : LDeed} {rv0 wv0 rv wv rv' wv' : Value} {la lr l' : List (RefK × Wd)} {ta tr t' : Int}
theorem locks_p (h : LocksAt w1 b m la ta) (h2 : RAt w1 p rv wv lr tr) : b ≠ p ∧ m ≠ p ∧ (∀ g, rv.ownBlock = some g → g ≠ b ∧ g ≠ m) ∧ (∀ g, wv.ownBlock = some g → g ≠ b ∧ g ≠ m) := by
  obtain ⟨es, c, hm, _⟩ := h.2
  have ne : ∀ (i : Nat) (cs : Array Value) (T : TypeId) (fz : Nat × Nat), w1.heap[i]? = some (.cells cs T fz) → i ≠ m := fun i cs T fz h1 e => by subst e; rw [hm] at h1; cases h1
  have rowm : ∀ {e : TypeId} {size k : Nat} {v : Value} {xs : List Value}, w1.ownsRow 0 e size v k xs → ∀ g, v.ownBlock = some g → g ≠ m := by
    intro e size k v xs h g hg
    rcases h.2 with ⟨rfl, _⟩ | ⟨g', cap, cur, rfl, _, hh, _⟩
    · cases hg
    · simp [Value.ownBlock] at hg
      subst hg
      exact ne _ _ _ _ hh
  refine ⟨fun e => ?_, Ne.symm (ne _ _ _ _ h2.hd), fun g hg => ⟨own_ty h2.rs h.1 (by decide) g hg, rowm h2.rs g hg⟩, fun g hg => ⟨own_ty h2.ws h.1 (by decide) g hg, rowm h2.ws g hg⟩⟩
  have h1 := h.1
  subst e
  rw [h2.hd] at h1
  simp [LBlk] at h1
theorem row_cells {T : TypeId} (hT : T ≠ 38) {size k : Nat} {v : Value} {xs : List Value} (h : w1.ownsRow 0 T size v k xs) (hc : w1.heap[n]? = some (.cells #[.int .i64 d.what, .int .i64 d.ref.1.1, .int .u32 d.ref.1.2, .int .u64 d.w.1] 38)) : v.ownBlock ≠ some n := fun e => own_ty h hc hT n e rfl
/-- The locks are turned. -/
theorem Both.a (h : Both w b m p n d rv0 wv0 rv wv la ta lr tr w1) (hL : LocksAt w2 b m l' t') (hX : Mod (Own b m) w1 w2) : Both w b m p n d rv0 wv0 rv wv l' t' lr tr w2 := by
  obtain ⟨n1, n2, n3, n4⟩ := locks_p h.lk h.rf
  have hne : ∀ i, Own b m i → i = b ∨ i = m := fun i e => e
  refine ⟨hL, ⟨(hX.block p h.rf.lt (fun e => by rcases e with e | e; exact n1 e.symm; exact n2 e.symm)).trans h.rf.hd, own_same h.rf.rs fun g hg => hX.block g (World.ownsRow.lt h.rf.rs g hg).2 (fun e => by rcases e with e | e; exact (n3 g hg).1 e; exact (n3 g hg).2 e),
    own_same h.rf.ws fun g hg => hX.block g (World.ownsRow.lt h.rf.ws g hg).2 (fun e => by rcases e with e | e; exact (n4 g hg).1 e; exact (n4 g hg).2 e)⟩, (hX.block n (lt_of_block h.cell) (fun e => ?_)).trans h.cell, h.mod.trans hX (fun _ _ e => .inl e), h.nr, h.nw⟩
  have hc := h.cell
  rcases e with e | e
  · subst e; rw [h.lk.1] at hc; simp [LBlk] at hc
  · subst e
    obtain ⟨es, c, hm, _⟩ := h.lk.2
    rw [hm] at hc; cases hc
/-- The reference is turned. -/
theorem Both.r (h : Both w b m p n d rv0 wv0 rv wv la ta lr tr w1) (hR : RAt w2 p rv' wv' l' t') (hX : Mod (ROwn p rv wv) w1 w2) (nr : ∀ g, rv'.ownBlock = some g → rv.ownBlock = some g ∨ w1.heap.size ≤ g) (nw : ∀ g, wv'.ownBlock = some g → wv.ownBlock = some g ∨ w1.heap.size ≤ g) :
    Both w b m p n d rv0 wv0 rv' wv' la ta l' t' w2 := by
  obtain ⟨n1, n2, n3, n4⟩ := locks_p h.lk h.rf
  have hsz := h.mod.size
  refine ⟨h.lk.mod hX (fun e => ?_) (fun e => ?_), hR, (hX.block n (lt_of_block h.cell) (fun e => ?_)).trans h.cell, ?_, fun g hg => ?_, fun g hg => ?_⟩
  · rcases e with e | e | e; exact n1 e; exact (n3 _ e).1 rfl; exact (n4 _ e).1 rfl
  · rcases e with e | e | e; exact n2 e; exact (n3 _ e).2 rfl; exact (n4 _ e).2 rfl
  · have hc := h.cell
    rcases e with e | e | e
    · subst e; rw [h.rf.hd] at hc; simp at hc
    · exact row_cells (by decide) h.rf.rs hc e
    · exact row_cells (by decide) h.rf.ws hc e
  · refine h.mod.trans hX (fun i hi e => ?_)
    rcases e with e | e | e
    · exact .inr (.inl e)
    · rcases h.nr i e with e | e
      · exact .inr (.inr (.inl e))
      · omega
    · rcases h.nw i e with e | e
      · exact .inr (.inr (.inr e))
      · omega
  · rcases nr g hg with e | e
    · exact h.nr g e
    · exact .inr (by omega)
  · rcases nw g hg with e | e
    · exact h.nw g e
    · exact .inr (by omega)
theorem Both.keep (h : Both w b m p n d rv0 wv0 rv wv la ta lr tr w1) (hB : Below w1.heap.size w1 w2) : Both w b m p n d rv0 wv0 rv wv la ta lr tr w2 :=
  ⟨h.lk.keep hB, h.rf.keep hB, blk_below h.cell hB (lt_of_block h.cell), mod_bel h.mod hB, h.nr, h.nw⟩
end
end Go.Proofs.Ytofkodfdgbjboaa
