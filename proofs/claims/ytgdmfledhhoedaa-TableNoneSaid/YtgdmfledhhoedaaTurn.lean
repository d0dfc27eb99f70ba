/- A region whose order is open, walked in the text's order, where one operation turns the world. -/
import Derived.Test.YtgdmfledhhoedaaSeq
namespace Go.Burg
open Go

/-- Operation c turns A into B. -/
def Turn (c : Nat) (A B : World → Prop) : (Nat → Bool) → World → Prop := fun D w => cond (D c) (B w) (A w)

section
variable {P : Program} {ops : Array Oper} {A B : World → Prop} {c k : Nat} {o : Oper} {l : List Oper} {a a' : Act} {K : Act → Prop}

theorem Turn.other {D : Nat → Bool} {w : World} (h : c ≠ k) : Turn c A B (fun j => D j || j == k) w = Turn c A B D w := by
  unfold Turn
  have : (c == k) = false := by simpa using h
  simp [this]
theorem Turn.or {D : Nat → Bool} {w : World} (h : Turn c A B D w) : A w ∨ B w := by
  unfold Turn at h
  cases hD : D c <;> rw [hD] at h
  · exact .inl h
  · exact .inr h

/-- An operation that turns nothing. -/
theorem Seq.calm (hk : c ≠ k) (h : ∀ w, (A w ∨ B w) → wpList P ops (Alone fun a1 w' => a1 = a' ∧ (A w → A w') ∧ (B w → B w')) [o] a w)
    (hp : a' = a.put o.dst (a'.tmps.getD (o.dst.getD 0) undef)) (k1 : SeqI P ops (Turn c A B) (k + 1) l a' K) : SeqI P ops (Turn c A B) k (o :: l) a K :=
  ⟨a', fun D w _ _ hI => alone_mono _ _ (by
    rintro a1 w' ⟨rfl, h1, h2⟩
    refine ⟨rfl, ?_⟩
    rw [Turn.other hk]
    unfold Turn at hI ⊢
    cases hD : D c <;> rw [hD] at hI <;> simp only [cond_true, cond_false] at hI ⊢
    · exact h1 hI
    · exact h2 hI) (h w hI.or), hp, k1⟩

/-- The operation that turns the world. -/
theorem Seq.turn (h : ∀ w, A w → wpList P ops (Alone fun a1 w' => a1 = a' ∧ B w') [o] a w)
    (hp : a' = a.put o.dst (a'.tmps.getD (o.dst.getD 0) undef)) (k1 : SeqI P ops (Turn c A B) (c + 1) l a' K) : SeqI P ops (Turn c A B) c (o :: l) a K :=
  ⟨a', fun D w hD _ hI => alone_mono _ _ (by
    rintro a1 w' ⟨rfl, h1⟩
    refine ⟨rfl, ?_⟩
    unfold Turn
    simpa using h1) (h w (by unfold Turn at hI; rw [hD] at hI; exact hI)), hp, k1⟩

theorem Turn.start {w : World} (h : A w) : Turn c A B (fun _ => false) w := h
theorem Turn.done {D : Nat → Bool} {w : World} (h : Turn c A B D w) (hD : D c = true) : B w := by
  unfold Turn at h
  rw [hD] at h
  exact h
end
end Go.Burg
