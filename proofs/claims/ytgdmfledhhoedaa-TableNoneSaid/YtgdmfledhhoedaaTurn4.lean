/- A region whose order is open, walked in the text's order, where four operations turn the world. (Printed by genturn4.py.) -/
import Derived.Test.YtgdmfledhhoedaaAnc
namespace Go.Burg
open Go

/-- Which of the four have been carried out is told to S. -/
def Turn4 (c1 c2 c3 c4 : Nat) (S : Bool → Bool → Bool → Bool → World → Prop) : (Nat → Bool) → World → Prop := fun D w => S (D c1) (D c2) (D c3) (D c4) w

section
variable {P : Program} {L : List Oper} {ops : Array Oper} {S : Bool → Bool → Bool → Bool → World → Prop} {c1 c2 c3 c4 k : Nat} {o : Oper} {r : List Oper} {a a' : Act} {K : Act → Prop}
theorem Turn4.start {w : World} (h : S false false false false w) : Turn4 c1 c2 c3 c4 S (fun _ => false) w := h
theorem Turn4.done {D : Nat → Bool} {w : World} (h : Turn4 c1 c2 c3 c4 S D w) (h1 : D c1 = true) (h2 : D c2 = true) (h3 : D c3 = true) (h4 : D c4 = true) : S true true true true w := by
  unfold Turn4 at h
  rwa [h1, h2, h3, h4] at h
theorem Turn4.done3 {D : Nat → Bool} {w : World} (h : Turn4 c1 c2 c3 c4 S D w) (h1 : D c1 = true) (h2 : D c2 = true) (h3 : D c3 = true) : ∃ b, S true true true b w := by
  unfold Turn4 at h
  rw [h1, h2, h3] at h
  exact ⟨_, h⟩
theorem Seq4.calm (n1 : c1 ≠ k) (n2 : c2 ≠ k) (n3 : c3 ≠ k) (n4 : c4 ≠ k) (h : ∀ b1 b2 b3 b4 w, (behind L c1 k = true → b1 = false) → ((Go.Burg.waits o).any (fun i => i == c1 || behind L i c1) = true → b1 = true) → (behind L c2 k = true → b2 = false) → ((Go.Burg.waits o).any (fun i => i == c2 || behind L i c2) = true → b2 = true) → (behind L c3 k = true → b3 = false) → ((Go.Burg.waits o).any (fun i => i == c3 || behind L i c3) = true → b3 = true) → (behind L c4 k = true → b4 = false) → ((Go.Burg.waits o).any (fun i => i == c4 || behind L i c4) = true → b4 = true) → S b1 b2 b3 b4 w → wpList P ops (Alone fun a1 w' => a1 = a' ∧ S b1 b2 b3 b4 w') [o] a w)
    (hp : a' = a.put o.dst (a'.tmps.getD (o.dst.getD 0) undef)) (k1 : SeqC P L ops (Turn4 c1 c2 c3 c4 S) (k + 1) r a' K) : SeqC P L ops (Turn4 c1 c2 c3 c4 S) k (o :: r) a K :=
  ⟨a', fun D w hD hw hcl hI => alone_mono _ _ (by
    rintro a1 w' ⟨rfl, h1⟩
    refine ⟨rfl, ?_⟩
    unfold Turn4
    have e1 : (c1 == k) = false := by simpa using n1
    have e2 : (c2 == k) = false := by simpa using n2
    have e3 : (c3 == k) = false := by simpa using n3
    have e4 : (c4 == k) = false := by simpa using n4
    simpa [e1, e2, e3, e4] using h1) (h _ _ _ _ w (fun e => hcl.ahead e hD) (fun e => hcl.of_waits hw e) (fun e => hcl.ahead e hD) (fun e => hcl.of_waits hw e) (fun e => hcl.ahead e hD) (fun e => hcl.of_waits hw e) (fun e => hcl.ahead e hD) (fun e => hcl.of_waits hw e) hI), hp, k1⟩
theorem Seq4.at1 (n2 : c2 ≠ c1) (n3 : c3 ≠ c1) (n4 : c4 ≠ c1) (h : ∀ b2 b3 b4 w, (behind L c2 c1 = true → b2 = false) → ((Go.Burg.waits o).any (fun i => i == c2 || behind L i c2) = true → b2 = true) → (behind L c3 c1 = true → b3 = false) → ((Go.Burg.waits o).any (fun i => i == c3 || behind L i c3) = true → b3 = true) → (behind L c4 c1 = true → b4 = false) → ((Go.Burg.waits o).any (fun i => i == c4 || behind L i c4) = true → b4 = true) → S false b2 b3 b4 w → wpList P ops (Alone fun a1 w' => a1 = a' ∧ S true b2 b3 b4 w') [o] a w)
    (hp : a' = a.put o.dst (a'.tmps.getD (o.dst.getD 0) undef)) (k1 : SeqC P L ops (Turn4 c1 c2 c3 c4 S) (c1 + 1) r a' K) : SeqC P L ops (Turn4 c1 c2 c3 c4 S) c1 (o :: r) a K :=
  ⟨a', fun D w hD hw hcl hI => alone_mono _ _ (by
    rintro a1 w' ⟨rfl, h1⟩
    refine ⟨rfl, ?_⟩
    unfold Turn4
    have e2 : (c2 == c1) = false := by simpa using n2
    have e3 : (c3 == c1) = false := by simpa using n3
    have e4 : (c4 == c1) = false := by simpa using n4
    simpa [e2, e3, e4] using h1) (h _ _ _ w (fun e => hcl.ahead e hD) (fun e => hcl.of_waits hw e) (fun e => hcl.ahead e hD) (fun e => hcl.of_waits hw e) (fun e => hcl.ahead e hD) (fun e => hcl.of_waits hw e) (by unfold Turn4 at hI; rw [hD] at hI; exact hI)), hp, k1⟩
theorem Seq4.at2 (n1 : c1 ≠ c2) (n3 : c3 ≠ c2) (n4 : c4 ≠ c2) (h : ∀ b1 b3 b4 w, (behind L c1 c2 = true → b1 = false) → ((Go.Burg.waits o).any (fun i => i == c1 || behind L i c1) = true → b1 = true) → (behind L c3 c2 = true → b3 = false) → ((Go.Burg.waits o).any (fun i => i == c3 || behind L i c3) = true → b3 = true) → (behind L c4 c2 = true → b4 = false) → ((Go.Burg.waits o).any (fun i => i == c4 || behind L i c4) = true → b4 = true) → S b1 false b3 b4 w → wpList P ops (Alone fun a1 w' => a1 = a' ∧ S b1 true b3 b4 w') [o] a w)
    (hp : a' = a.put o.dst (a'.tmps.getD (o.dst.getD 0) undef)) (k1 : SeqC P L ops (Turn4 c1 c2 c3 c4 S) (c2 + 1) r a' K) : SeqC P L ops (Turn4 c1 c2 c3 c4 S) c2 (o :: r) a K :=
  ⟨a', fun D w hD hw hcl hI => alone_mono _ _ (by
    rintro a1 w' ⟨rfl, h1⟩
    refine ⟨rfl, ?_⟩
    unfold Turn4
    have e1 : (c1 == c2) = false := by simpa using n1
    have e3 : (c3 == c2) = false := by simpa using n3
    have e4 : (c4 == c2) = false := by simpa using n4
    simpa [e1, e3, e4] using h1) (h _ _ _ w (fun e => hcl.ahead e hD) (fun e => hcl.of_waits hw e) (fun e => hcl.ahead e hD) (fun e => hcl.of_waits hw e) (fun e => hcl.ahead e hD) (fun e => hcl.of_waits hw e) (by unfold Turn4 at hI; rw [hD] at hI; exact hI)), hp, k1⟩
theorem Seq4.at3 (n1 : c1 ≠ c3) (n2 : c2 ≠ c3) (n4 : c4 ≠ c3) (h : ∀ b1 b2 b4 w, (behind L c1 c3 = true → b1 = false) → ((Go.Burg.waits o).any (fun i => i == c1 || behind L i c1) = true → b1 = true) → (behind L c2 c3 = true → b2 = false) → ((Go.Burg.waits o).any (fun i => i == c2 || behind L i c2) = true → b2 = true) → (behind L c4 c3 = true → b4 = false) → ((Go.Burg.waits o).any (fun i => i == c4 || behind L i c4) = true → b4 = true) → S b1 b2 false b4 w → wpList P ops (Alone fun a1 w' => a1 = a' ∧ S b1 b2 true b4 w') [o] a w)
    (hp : a' = a.put o.dst (a'.tmps.getD (o.dst.getD 0) undef)) (k1 : SeqC P L ops (Turn4 c1 c2 c3 c4 S) (c3 + 1) r a' K) : SeqC P L ops (Turn4 c1 c2 c3 c4 S) c3 (o :: r) a K :=
  ⟨a', fun D w hD hw hcl hI => alone_mono _ _ (by
    rintro a1 w' ⟨rfl, h1⟩
    refine ⟨rfl, ?_⟩
    unfold Turn4
    have e1 : (c1 == c3) = false := by simpa using n1
    have e2 : (c2 == c3) = false := by simpa using n2
    have e4 : (c4 == c3) = false := by simpa using n4
    simpa [e1, e2, e4] using h1) (h _ _ _ w (fun e => hcl.ahead e hD) (fun e => hcl.of_waits hw e) (fun e => hcl.ahead e hD) (fun e => hcl.of_waits hw e) (fun e => hcl.ahead e hD) (fun e => hcl.of_waits hw e) (by unfold Turn4 at hI; rw [hD] at hI; exact hI)), hp, k1⟩
theorem Seq4.at4 (n1 : c1 ≠ c4) (n2 : c2 ≠ c4) (n3 : c3 ≠ c4) (h : ∀ b1 b2 b3 w, (behind L c1 c4 = true → b1 = false) → ((Go.Burg.waits o).any (fun i => i == c1 || behind L i c1) = true → b1 = true) → (behind L c2 c4 = true → b2 = false) → ((Go.Burg.waits o).any (fun i => i == c2 || behind L i c2) = true → b2 = true) → (behind L c3 c4 = true → b3 = false) → ((Go.Burg.waits o).any (fun i => i == c3 || behind L i c3) = true → b3 = true) → S b1 b2 b3 false w → wpList P ops (Alone fun a1 w' => a1 = a' ∧ S b1 b2 b3 true w') [o] a w)
    (hp : a' = a.put o.dst (a'.tmps.getD (o.dst.getD 0) undef)) (k1 : SeqC P L ops (Turn4 c1 c2 c3 c4 S) (c4 + 1) r a' K) : SeqC P L ops (Turn4 c1 c2 c3 c4 S) c4 (o :: r) a K :=
  ⟨a', fun D w hD hw hcl hI => alone_mono _ _ (by
    rintro a1 w' ⟨rfl, h1⟩
    refine ⟨rfl, ?_⟩
    unfold Turn4
    have e1 : (c1 == c4) = false := by simpa using n1
    have e2 : (c2 == c4) = false := by simpa using n2
    have e3 : (c3 == c4) = false := by simpa using n3
    simpa [e1, e2, e3] using h1) (h _ _ _ w (fun e => hcl.ahead e hD) (fun e => hcl.of_waits hw e) (fun e => hcl.ahead e hD) (fun e => hcl.of_waits hw e) (fun e => hcl.ahead e hD) (fun e => hcl.of_waits hw e) (by unfold Turn4 at hI; rw [hD] at hI; exact hI)), hp, k1⟩

/-- append, its run being told. -/
theorem wpList_append_run {rest : List Oper} {Q : Exit → Act → World → Prop} {w : World} (hg : o.guard = none) (s x : Operand) (t : TypeId) (hop : o.op = .call { callee := .builtin .append, args := #[s, x], argTypes := #[t, t] }) (v x' v' : Value) (w' : World)
    (hs : a.eval s = v) (hx : a.eval x = x') (hrun : (Builtin.append_ #[t, t] o.type #[v, x']).run P w = .ok v' w') (hK : wpList P ops Q rest (a.put o.dst v') w') : wpList P ops Q (o :: rest) a w := by
  refine wpList_plain hg fun K' hK' => ?_
  unfold Oper.wp
  simp [execOp, hop, resolve, invoke, builtin, hs, hx, hrun, Result.andThen]
  exact hK' _ _ hK
end
end Go.Burg
