/- A region whose order is open, walked in the text's order, where two operations turn the world. -/
import Derived.Test.YtgdmfledhhoedaaTurn
namespace Go.Burg
open Go

/-- Which of the two have been carried out is told to S. -/
def Turn2 (c d : Nat) (S : Bool → Bool → World → Prop) : (Nat → Bool) → World → Prop := fun D w => S (D c) (D d) w

section
variable {P : Program} {ops : Array Oper} {S : Bool → Bool → World → Prop} {c d k : Nat} {o : Oper} {l : List Oper} {a a' : Act} {K : Act → Prop}

theorem Seq2.calm (hc : c ≠ k) (hd : d ≠ k) (h : ∀ b1 b2 w, S b1 b2 w → wpList P ops (Alone fun a1 w' => a1 = a' ∧ S b1 b2 w') [o] a w)
    (hp : a' = a.put o.dst (a'.tmps.getD (o.dst.getD 0) undef)) (k1 : SeqI P ops (Turn2 c d S) (k + 1) l a' K) : SeqI P ops (Turn2 c d S) k (o :: l) a K :=
  ⟨a', fun D w _ _ hI => alone_mono _ _ (by
    rintro a1 w' ⟨rfl, h1⟩
    refine ⟨rfl, ?_⟩
    unfold Turn2
    have e1 : (c == k) = false := by simpa using hc
    have e2 : (d == k) = false := by simpa using hd
    simpa [e1, e2] using h1) (h _ _ w hI), hp, k1⟩
theorem Seq2.fst (hd : d ≠ c) (h : ∀ b2 w, S false b2 w → wpList P ops (Alone fun a1 w' => a1 = a' ∧ S true b2 w') [o] a w)
    (hp : a' = a.put o.dst (a'.tmps.getD (o.dst.getD 0) undef)) (k1 : SeqI P ops (Turn2 c d S) (c + 1) l a' K) : SeqI P ops (Turn2 c d S) c (o :: l) a K :=
  ⟨a', fun D w hD _ hI => alone_mono _ _ (by
    rintro a1 w' ⟨rfl, h1⟩
    refine ⟨rfl, ?_⟩
    unfold Turn2
    have e2 : (d == c) = false := by simpa using hd
    simpa [e2] using h1) (h (D d) w (by unfold Turn2 at hI; rw [hD] at hI; exact hI)), hp, k1⟩
theorem Seq2.snd (hc : c ≠ d) (h : ∀ b1 w, S b1 false w → wpList P ops (Alone fun a1 w' => a1 = a' ∧ S b1 true w') [o] a w)
    (hp : a' = a.put o.dst (a'.tmps.getD (o.dst.getD 0) undef)) (k1 : SeqI P ops (Turn2 c d S) (d + 1) l a' K) : SeqI P ops (Turn2 c d S) d (o :: l) a K :=
  ⟨a', fun D w hD _ hI => alone_mono _ _ (by
    rintro a1 w' ⟨rfl, h1⟩
    refine ⟨rfl, ?_⟩
    unfold Turn2
    have e2 : (c == d) = false := by simpa using hc
    simpa [e2] using h1) (h (D c) w (by unfold Turn2 at hI; rw [hD] at hI; exact hI)), hp, k1⟩
theorem Turn2.start {w : World} (h : S false false w) : Turn2 c d S (fun _ => false) w := h
theorem Turn2.done {D : Nat → Bool} {w : World} (h : Turn2 c d S D w) (hc : D c = true) (hd : D d = true) : S true true w := by
  unfold Turn2 at h
  rwa [hc, hd] at h
end
end Go.Burg
