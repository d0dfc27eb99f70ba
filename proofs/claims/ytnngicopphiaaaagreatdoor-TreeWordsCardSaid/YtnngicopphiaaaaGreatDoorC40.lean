/- Part 40 of 51 of a proof: lemmas on the functions that it reaches. -/
import Derived.Test.YtnngicopphiaaaaGreatDoorC39
import Derived.Test.YtnngicopphiaaaaGreatDoorC38
import Derived.Test.YtnngicopphiaaaaGreatDoorC10
namespace Go.Burg
open Go Go.RowKit
theorem First.set {α : Type} {P : List (Cel α)} {j : Int} {i : Nat} {p c : Cel α} (h : First P j) (hp : P[i]? = some p) (h1 : p.room = false) (h2 : c.room = false) : First (P.set i c) j := by
  have hil : i < P.length := (List.getElem?_eq_some_iff.1 hp).1
  have old : ∀ k d, (P.set i c)[k]? = some d → k ≠ i → P[k]? = some d := fun k d hd hk => by rwa [List.getElem?_set_ne (fun e => hk e.symm)] at hd
  rcases h with ⟨k, d, rfl, g1, g2, g3⟩ | ⟨rfl, g⟩
  · have hki : k ≠ i := fun e => by
      subst e
      rw [hp] at g1
      cases g1
      rw [h1] at g2
      cases g2
    refine .inl ⟨k, d, rfl, by rw [List.getElem?_set_ne (fun e => hki e.symm)]; exact g1, g2, fun m hm d' hd' => ?_⟩
    by_cases e : m = i
    · subst e
      rw [List.getElem?_set_self hil] at hd'
      cases hd'
      exact h2
    · exact g3 m hm d' (old m d' hd' e)
  · refine .inr ⟨rfl, fun m d' hd' => ?_⟩
    by_cases e : m = i
    · subst e
      rw [List.getElem?_set_self hil] at hd'
      cases hd'
      exact h2
    · exact g m d' (old m d' hd' e)
end Go.Burg
namespace Go.Proofs.YtnngicopphiaaaaGreatDoor.T
set_option maxRecDepth 8000
open Go.ChangeShapes Go.WideShapes Go.ChangeAt Go.RowKit Go.Burg
open Go.Burg.Lk
end Go.Proofs.YtnngicopphiaaaaGreatDoor.T

namespace Go.Burg
open Go Go.RowKit
theorem or_ne {D : Nat → Bool} {a b : Nat} (h : ¬ a = b) : (D a || a == b) = D a := by simp [h]
structure NJ (S : Nat → Prop) (P0 P1 : World → Prop) (F : Nat → World → Value → Prop) (W0 : World) (T : TypeId) (z : Array Value) (o1 : (Nat → Value) → Array Value) (os ls : List Nat) (iT iA iS : Nat) (fx fd : List Nat) (dl : Nat → List Nat) (tab : Nat → Value) (td : Nat → (Nat → Value) → Value) (D : Nat → Bool) (xs : Nat → Value) (w : World) : Prop where
  m : Mod S W0 w
  p : cond (D iT) (P1 w) (P0 w)
  l : ∀ j, j ∈ ls → D j = true → F j w (xs j)
  a : D iA = true → ∃ u, W0.heap.size ≤ u ∧ xs iA = .pointer (some ⟨u, 0, none⟩) ∧ w.heap[u]? = some (.cells (cond (D iS) (o1 xs) z) T (0, 0))
  v : ∀ j, D j = true → j ∈ fx → xs j = tab j
  e : ∀ j, D j = true → j ∈ fd → (∀ k, k ∈ dl j → D k = true) ∧ xs j = td j xs
  s : D iS = true → D iA = true ∧ ∀ k, k ∈ os → D k = true
structure NJOk (S : Nat → Prop) (P0 P1 : World → Prop) (F : Nat → World → Value → Prop) (W0 : World) (T : TypeId) (z : Array Value) (o1 : (Nat → Value) → Array Value) (os : List Nat) (dl : Nat → List Nat) (td : Nat → (Nat → Value) → Value) : Prop where
  b0 : ∀ w w', P0 w → Below w.heap.size w w' → P0 w'
  b1 : ∀ w w', P1 w → Below w.heap.size w w' → P1 w'
  bf : ∀ j w w' v, F j w v → Below w.heap.size w w' → F j w' v
  s0 : ∀ w w' u, W0.heap.size ≤ u → w.heap[u]? = some (.cells z T (0, 0)) → Mod (· = u) w w' → P0 w → P0 w'
  s1 : ∀ w w' u, W0.heap.size ≤ u → w.heap[u]? = some (.cells z T (0, 0)) → Mod (· = u) w w' → P1 w → P1 w'
  sf : ∀ j w w' u v, W0.heap.size ≤ u → w.heap[u]? = some (.cells z T (0, 0)) → Mod (· = u) w w' → F j w v → F j w' v
  tf : ∀ j w w' v, Mod S w w' → F j w v → F j w' v
  lt : ∀ k, S k → k < W0.heap.size
  c1 : ∀ xs ys : Nat → Value, (∀ k, k ∈ os → xs k = ys k) → o1 xs = o1 ys
  cd : ∀ j (xs ys : Nat → Value), (∀ k, k ∈ dl j → xs k = ys k) → td j xs = td j ys
section
variable {S : Nat → Prop} {P0 P1 : World → Prop} {F : Nat → World → Value → Prop} {W0 w w' : World} {T : TypeId} {z : Array Value} {o1 : (Nat → Value) → Array Value} {os ls : List Nat} {iT iA iS : Nat} {fx fd : List Nat} {dl : Nat → List Nat} {tab : Nat → Value} {td : Nat → (Nat → Value) → Value} {D : Nat → Bool} {xs : Nat → Value}
theorem NJ.start (h : P0 W0.drew) : NJ S P0 P1 F W0 T z o1 os ls iT iA iS fx fd dl tab td (fun _ => false) (fun _ => undef) W0.drew :=
  ⟨(Mod.refl _ _).drew, h, fun _ _ h => (by cases h), fun h => (by cases h), fun j h => (by cases h), fun j h => (by cases h), fun h => (by cases h)⟩
theorem NJ.step (hk : NJOk S P0 P1 F W0 T z o1 os dl td) (h : NJ S P0 P1 F W0 T z o1 os ls iT iA iS fx fd dl tab td D xs w) {i : Nat} {u : Value} (hD : D i = false) (hm : Mod S W0 w') (hp : cond (D iT || iT == i) (P1 w') (P0 w')) (lk : ∀ j, j ∈ ls → D j = true → F j w' (xs j)) (ln : i ∈ ls → F i w' u)
    (ak : ∀ b, D iA = true → W0.heap.size ≤ b → xs iA = .pointer (some ⟨b, 0, none⟩) → w.heap[b]? = some (.cells (cond (D iS) (o1 xs) z) T (0, 0)) → w'.heap[b]? = some (.cells (cond (D iS || iS == i) (o1 xs) z) T (0, 0)))
    (an : i = iA → ∃ b, W0.heap.size ≤ b ∧ u = .pointer (some ⟨b, 0, none⟩) ∧ w'.heap[b]? = some (.cells z T (0, 0))) (_hAS : iA ≠ iS) (vn : i ∈ fx → u = tab i) (en : i ∈ fd → (∀ k, k ∈ dl i → D k = true) ∧ u = td i xs) (sn : i = iS → D iA = true ∧ ∀ k, k ∈ os → D k = true) :
    NJ S P0 P1 F W0 T z o1 os ls iT iA iS fx fd dl tab td (fun j => D j || j == i) (fun j => if j = i then u else xs j) w' := by
  have old : ∀ k, D k = true → (if k = i then u else xs k) = xs k := fun k hk => if_neg (fun e => by subst e; rw [hD] at hk; cases hk)
  have up : ∀ k, D k = true → (D k || k == i) = true := fun k hk => by rw [hk]; rfl
  have so : (D iS || iS == i) = true → D iA = true ∧ ∀ k, k ∈ os → D k = true := fun e => by
    simp only [Bool.or_eq_true, beq_iff_eq] at e
    rcases e with e | e
    · exact h.s e
    · exact sn e.symm
  refine ⟨hm, hp, fun j hj hd => ?_, fun e => ?_, fun j hj hr => ?_, fun j hj hr => ?_, fun e => ?_⟩
  · by_cases e : j = i
    · subst e; simp only [if_pos]; exact ln hj
    · have hd' : D j = true := by simpa [e] using hd
      simp only [if_neg e]; exact lk j hj hd'
  · have ec : cond (D iS || iS == i) (o1 (fun j => if j = i then u else xs j)) z = cond (D iS || iS == i) (o1 xs) z := by
      cases hs : (D iS || iS == i)
      · rfl
      · exact hk.c1 _ _ (fun k hk => old k ((so hs).2 k hk))
    simp only [ec]
    by_cases ei : iA = i
    · subst ei
      obtain ⟨b, q1, q2, q3⟩ := an rfl
      have es : (D iS || iS == iA) = false := by
        cases hs : (D iS || iS == iA)
        · rfl
        · rw [(so hs).1] at hD; cases hD
      simp only [if_pos, es, cond_false]
      exact ⟨b, q1, q2, q3⟩
    · have hA : D iA = true := by simpa [ei] using e
      obtain ⟨b, q1, q2, q3⟩ := h.a hA
      simp only [if_neg ei]
      exact ⟨b, q1, q2, ak b hA q1 q2 q3⟩
  · by_cases e : j = i
    · subst e; simp only [if_pos]; exact vn hr
    · simp only [if_neg e]; exact h.v j (by simpa [e] using hj) hr
  · by_cases e : j = i
    · subst e
      obtain ⟨a, b⟩ := en hr
      simp only [if_pos]
      exact ⟨fun k hk => up k (a k hk), b.trans (hk.cd _ _ _ (fun k hk => (old k (a k hk)).symm))⟩
    · obtain ⟨a, b⟩ := h.e j (by simpa [e] using hj) hr
      simp only [if_neg e]
      exact ⟨fun k hk => up k (a k hk), b.trans (hk.cd _ _ _ (fun k hk => (old k (a k hk)).symm))⟩
  · obtain ⟨a, b⟩ := so e
    exact ⟨up _ a, fun k hk => up k (b k hk)⟩
theorem NJ.pk (hk : NJOk S P0 P1 F W0 T z o1 os dl td) (h : NJ S P0 P1 F W0 T z o1 os ls iT iA iS fx fd dl tab td D xs w) {i : Nat} (h2 : i ≠ iT) (hb : Below w.heap.size w w') : cond (D iT || iT == i) (P1 w') (P0 w') := by
  have e2 : (D iT || iT == i) = D iT := or_ne (fun e => h2 e.symm)
  rw [e2]
  have := h.p
  cases hd : D iT <;> rw [hd] at this
  · exact hk.b0 _ _ this hb
  · exact hk.b1 _ _ this hb
theorem NJ.calm (hk : NJOk S P0 P1 F W0 T z o1 os dl td) (h : NJ S P0 P1 F W0 T z o1 os ls iT iA iS fx fd dl tab td D xs w) {i : Nat} {u : Value} (hD : D i = false) (hAS : iA ≠ iS) (h1 : i ∉ ls) (h2 : i ≠ iT) (h3 : i ≠ iA) (h4 : i ≠ iS) (h5 : i ∉ fd) (hu : i ∈ fx → u = tab i) (hb : Below w.heap.size w w') : NJ S P0 P1 F W0 T z o1 os ls iT iA iS fx fd dl tab td (fun j => D j || j == i) (fun j => if j = i then u else xs j) w' := by
  have e4 : (D iS || iS == i) = D iS := or_ne (fun e => h4 e.symm)
  refine NJ.step hk h hD (h.m.trans (mod_below hb) (fun _ _ e => e)) (NJ.pk hk h h2 hb) (fun j hj hd => hk.bf _ _ _ _ (h.l j hj hd) hb) (fun e => absurd e h1) (fun b hA q1 q2 q3 => ?_) (fun e => absurd e h3) hAS hu (fun e => absurd e h5) (fun e => absurd e h4)
  rw [e4]
  exact (hb.block b (lt_of_block q3)).trans q3
theorem NJ.dep (hk : NJOk S P0 P1 F W0 T z o1 os dl td) (h : NJ S P0 P1 F W0 T z o1 os ls iT iA iS fx fd dl tab td D xs w) {i : Nat} {u : Value} (hD : D i = false) (hAS : iA ≠ iS) (h1 : i ∉ ls) (h2 : i ≠ iT) (h3 : i ≠ iA) (h4 : i ≠ iS) (h5 : i ∉ fx) (hd : ∀ k, k ∈ dl i → D k = true) (hu : u = td i xs) (hb : Below w.heap.size w w') : NJ S P0 P1 F W0 T z o1 os ls iT iA iS fx fd dl tab td (fun j => D j || j == i) (fun j => if j = i then u else xs j) w' := by
  have e4 : (D iS || iS == i) = D iS := or_ne (fun e => h4 e.symm)
  refine NJ.step hk h hD (h.m.trans (mod_below hb) (fun _ _ e => e)) (NJ.pk hk h h2 hb) (fun j hj hd => hk.bf _ _ _ _ (h.l j hj hd) hb) (fun e => absurd e h1) (fun b hA q1 q2 q3 => ?_) (fun e => absurd e h3) hAS (fun e => absurd e h5) (fun _ => ⟨hd, hu⟩) (fun e => absurd e h4)
  rw [e4]
  exact (hb.block b (lt_of_block q3)).trans q3
theorem NJ.call (hk : NJOk S P0 P1 F W0 T z o1 os dl td) (h : NJ S P0 P1 F W0 T z o1 os ls iT iA iS fx fd dl tab td D xs w) {i : Nat} {u : Value} (hD : D i = false) (hAS : iA ≠ iS) (h2 : i ≠ iT) (h3 : i ≠ iA) (h4 : i ≠ iS) (h5 : i ∉ fd) (h6 : i ∉ fx) (hu : F i w' u) (hb : Below w.heap.size w w') : NJ S P0 P1 F W0 T z o1 os ls iT iA iS fx fd dl tab td (fun j => D j || j == i) (fun j => if j = i then u else xs j) w' := by
  have e4 : (D iS || iS == i) = D iS := or_ne (fun e => h4 e.symm)
  refine NJ.step hk h hD (h.m.trans (mod_below hb) (fun _ _ e => e)) (NJ.pk hk h h2 hb) (fun j hj hd => hk.bf _ _ _ _ (h.l j hj hd) hb) (fun _ => hu) (fun b hA q1 q2 q3 => ?_) (fun e => absurd e h3) hAS (fun e => absurd e h6) (fun e => absurd e h5) (fun e => absurd e h4)
  rw [e4]
  exact (hb.block b (lt_of_block q3)).trans q3
theorem NJ.turn (hk : NJOk S P0 P1 F W0 T z o1 os dl td) (h : NJ S P0 P1 F W0 T z o1 os ls iT iA iS fx fd dl tab td D xs w) {u : Value} (hD : D iT = false) (hAS : iA ≠ iS) (h1 : iT ∉ ls) (h3 : iT ≠ iA) (h4 : iT ≠ iS) (h5 : iT ∉ fd) (hu : iT ∈ fx → u = tab iT) (hp : P1 w') (hm : Mod S w w') : NJ S P0 P1 F W0 T z o1 os ls iT iA iS fx fd dl tab td (fun j => D j || j == iT) (fun j => if j = iT then u else xs j) w' := by
  have e4 : (D iS || iS == iT) = D iS := or_ne (fun e => h4 e.symm)
  refine NJ.step hk h hD (h.m.trans hm (fun _ _ e => e)) (by simp; exact hp) (fun j hj hd => hk.tf _ _ _ _ hm (h.l j hj hd)) (fun e => absurd e h1) (fun b hA q1 q2 q3 => ?_) (fun e => absurd e h3) hAS hu (fun e => absurd e h5) (fun e => absurd e h4)
  rw [e4]
  exact (hm.block b (lt_of_block q3) (fun hs => by have := hk.lt b hs; omega)).trans q3
theorem NJ.turnF (hk : NJOk S P0 P1 F W0 T z o1 os dl td) (h : NJ S P0 P1 F W0 T z o1 os ls iT iA iS fx fd dl tab td D xs w) {u : Value} (hD : D iT = false) (hAS : iA ≠ iS) (h1 : iT ∉ fx) (h3 : iT ≠ iA) (h4 : iT ≠ iS) (h5 : iT ∉ fd) (hu : F iT w' u) (hp : P1 w') (hm : Mod S w w') : NJ S P0 P1 F W0 T z o1 os ls iT iA iS fx fd dl tab td (fun j => D j || j == iT) (fun j => if j = iT then u else xs j) w' := by
  have e4 : (D iS || iS == iT) = D iS := or_ne (fun e => h4 e.symm)
  refine NJ.step hk h hD (h.m.trans hm (fun _ _ e => e)) (by simp; exact hp) (fun j hj hd => hk.tf _ _ _ _ hm (h.l j hj hd)) (fun _ => hu) (fun b hA q1 q2 q3 => ?_) (fun e => absurd e h3) hAS (fun e => absurd e h1) (fun e => absurd e h5) (fun e => absurd e h4)
  rw [e4]
  exact (hm.block b (lt_of_block q3) (fun hs => by have := hk.lt b hs; omega)).trans q3
theorem NJ.alloc (hk : NJOk S P0 P1 F W0 T z o1 os dl td) (h : NJ S P0 P1 F W0 T z o1 os ls iT iA iS fx fd dl tab td D xs w) (hD : D iA = false) (hAS : iA ≠ iS) (h1 : iA ∉ ls) (h2 : iA ≠ iT) (h5 : iA ∉ fd) (h6 : iA ∉ fx) : NJ S P0 P1 F W0 T z o1 os ls iT iA iS fx fd dl tab td (fun j => D j || j == iA) (fun j => if j = iA then .pointer (some ⟨w.heap.size, 0, none⟩) else xs j) (w.alloc (.cells z T (0, 0))) := by
  have hb : Below w.heap.size w (w.alloc (.cells z T (0, 0))) := (Below.refl _ _).alloc (Nat.le_refl _) _
  exact NJ.step hk h hD (h.m.trans (mod_below hb) (fun _ _ e => e)) (NJ.pk hk h h2 hb) (fun j hj hd => hk.bf _ _ _ _ (h.l j hj hd) hb) (fun e => absurd e h1) (fun b hA => by rw [hA] at hD; cases hD) (fun _ => ⟨w.heap.size, h.m.size, rfl, heap_new _ _⟩) hAS (fun e => absurd e h6) (fun e => absurd e h5) (fun e => absurd e hAS)
theorem NJ.store (hk : NJOk S P0 P1 F W0 T z o1 os dl td) (h : NJ S P0 P1 F W0 T z o1 os ls iT iA iS fx fd dl tab td D xs w) {u : Value} {b : Nat} (hD : D iS = false) (hAS : iA ≠ iS) (h1 : iS ∉ ls) (h2 : iS ≠ iT) (h5 : iS ∉ fd) (h6 : iS ∉ fx) (hA : D iA = true) (ho : ∀ k, k ∈ os → D k = true) (hx : xs iA = .pointer (some ⟨b, 0, none⟩)) (hm : Mod (· = b) w w') (hc : w'.heap[b]? = some (.cells (o1 xs) T (0, 0))) : NJ S P0 P1 F W0 T z o1 os ls iT iA iS fx fd dl tab td (fun j => D j || j == iS) (fun j => if j = iS then u else xs j) w' := by
  obtain ⟨b', q1, q2, q3⟩ := h.a hA
  obtain rfl : b = b' := by rw [hx] at q2; injection q2 with q2; injection q2 with q2; injection q2
  rw [hD] at q3
  simp only [cond_false] at q3
  have e2 : (D iT || iT == iS) = D iT := or_ne (fun e => h2 e.symm)
  refine NJ.step hk h hD (h.m.trans hm (fun i hi e => by have : i = b := e; omega)) ?_ (fun j hj hd => hk.sf _ _ _ _ _ q1 q3 hm (h.l j hj hd)) (fun e => absurd e h1) (fun b' _ _ r2 _ => ?_) (fun e => absurd e.symm hAS) hAS (fun e => absurd e h6) (fun e => absurd e h5) (fun _ => ⟨hA, ho⟩)
  · rw [e2]
    have := h.p
    cases hd : D iT <;> rw [hd] at this
    · exact hk.s0 _ _ _ q1 q3 hm this
    · exact hk.s1 _ _ _ q1 q3 hm this
  · obtain rfl : b = b' := by rw [hx] at r2; injection r2 with r2; injection r2 with r2; injection r2
    simp only [beq_self_eq_true, Bool.or_true, cond_true]
    exact hc
end
theorem NJOk.calm {W0 : World} {T : TypeId} {z : Array Value} {o : Array Value} {dl : Nat → List Nat} : NJOk (fun _ => False) (fun _ => True) (fun _ => True) (fun _ _ _ => True) W0 T z (fun _ => o) [] dl (fun _ _ => undef) :=
  ⟨fun _ _ _ _ => trivial, fun _ _ _ _ => trivial, fun _ _ _ _ _ _ => trivial, fun _ _ _ _ _ _ _ => trivial, fun _ _ _ _ _ _ _ => trivial, fun _ _ _ _ _ _ _ _ _ => trivial, fun _ _ _ _ _ _ => trivial, fun _ h => h.elim, fun _ _ _ => rfl, fun _ _ _ _ => rfl⟩
end Go.Burg

namespace Go.Proofs.YtnngicopphiaaaaGreatDoor.T
set_option maxRecDepth 8000
open Go.ChangeShapes Go.WideShapes Go.ChangeAt Go.RowKit Go.Burg
open Go.Burg.Lk
theorem set6_mod {T : TypeId} {w : World} {c : Nat} {a0 a1 a2 a3 a4 a5 : Value} (b0 b1 b2 b3 b4 b5 : Value) (h : w.heap[c]? = some (.cells #[a0, a1, a2, a3, a4, a5] T (0, 0))) :
    ((((((w.setCell ⟨c, 0, none⟩ b0).setCell ⟨c, 1, none⟩ b1).setCell ⟨c, 2, none⟩ b2).setCell ⟨c, 3, none⟩ b3).setCell ⟨c, 4, none⟩ b4).setCell ⟨c, 5, none⟩ b5).heap[c]? = some (.cells #[b0, b1, b2, b3, b4, b5] T (0, 0)) ∧ Mod (· = c) w ((((((w.setCell ⟨c, 0, none⟩ b0).setCell ⟨c, 1, none⟩ b1).setCell ⟨c, 2, none⟩ b2).setCell ⟨c, 3, none⟩ b3).setCell ⟨c, 4, none⟩ b4).setCell ⟨c, 5, none⟩ b5) := by
  refine ⟨?_, ?_⟩
  · have := heap_set (i := 5) (v := b5) (heap_set (i := 4) (v := b4) (heap_set (i := 3) (v := b3) (heap_set (i := 2) (v := b2) (heap_set (i := 1) (v := b1) (heap_set (i := 0) (v := b0) h)))))
    simpa using this
  have stp : ∀ {A : World} (j : Nat) (v : Value), Mod (· = c) w A → Mod (· = c) w (A.setCell ⟨c, j, none⟩ v) := fun j v h => Mod.setCell (S := (· = c)) (p := ⟨c, j, none⟩) h (.inl rfl) v
  exact stp _ _ (stp _ _ (stp _ _ (stp _ _ (stp _ _ (stp _ _ (Mod.refl _ _))))))
end Go.Proofs.YtnngicopphiaaaaGreatDoor.T

namespace Go.Proofs.YtnngicopphiaaaaGreatDoor.T
set_option maxRecDepth 8000
open Go.ChangeShapes Go.WideShapes Go.ChangeAt Go.RowKit Go.Burg
set_option maxRecDepth 20000 in
theorem rclone_off {g o m cp : Nat} (news : List Value) (w : World) (hg : g < w.heap.size) (hc : ∀ j u, news[j]? = some u → w.cell? ⟨g, o + j, none⟩ = some u) (hl : news.length = m * 2) (hone : ∀ u ∈ news, u.oneCell' = true) (h1 : 1 ≤ m) (h2 : m ≤ 4096) : Calls Tryz.prog 50 #[.slice (some ⟨g, o, none⟩) m cp] w fun e w' => ∃ g' cap, e = .returned (.slice (some ⟨g', 0, none⟩) m cap) ∧ w'.ownsRow w.heap.size 30 2 (.slice (some ⟨g', 0, none⟩) m cap) m news ∧ Below w.heap.size w w' := by
  obtain ⟨i, hi, hz, hs, hby⟩ := info_parts (P := Tryz.prog) (e := 30) (z := .agg #[.int .i64 0, .int .u32 0]) (size := 2) (bytes := 16) (by kernel_rfl)
  have HI := hid hi
  have HZ := hid hz
  have HS := hid hs
  have HY := hid hby
  have hN := heap_new w (.cells #[] 30 (0, 0))
  have HO : Hid ((w.alloc (.cells #[] 30 (0, 0))).ownsRow w.heap.size 30 2 (.slice (some ⟨w.heap.size, 0, none⟩) 0 0) 0 []) := hid ⟨rfl, .inr ⟨w.heap.size, 0, #[], rfl, Nat.le_refl _, hN, Nat.le_refl _, Nat.zero_le _, rfl, rfl⟩⟩
  have hnews : ∀ j u, news[j]? = some u → (w.alloc (.cells #[] 30 (0, 0))).cell? ((⟨g, o, none⟩ : Addr).add j) = some u := by
    intro j u hj
    have key : (⟨g, o, none⟩ : Addr).add j = ⟨g, o + j, none⟩ := by unfold Addr.add; split <;> simp_all
    rw [key]
    exact (World.cell?_of_block (w := w) (Below.heap_alloc _ _ _ hg)).trans (hc j u hj)
  have HW := hid hnews
  have HL := hid hl
  have HONE := hid hone
  clear hi hz hs hby hnews hN hc hl hone
  have heq : ∀ (w : World), (binOp BinOp.eql 43 (.slice (some ⟨g, o, none⟩) m cp) (.slice none 0 0)).run Tryz.prog w = .ok (.bool false) w := fun _ => rfl
  go_enter Tryz.func50, Tryz.ntmps50
  go_wp2_with (at_builtin; go_loud (refine wpList_append_own _ rfl (.tmp 5) (.tmp 6) 43 rfl w.heap.size 30 i _ 2 16 Tryz.underlying43 HI.out HZ.out HS.out HY.out rfl (by decide) (.slice (some ⟨w.heap.size, 0, none⟩) 0 0) 0 [] rfl HO.out ⟨g, o, none⟩ m cp news rfl HL.out HW.out HONE.out (by simp [maxLen]; omega) (by omega) (by simp) ?_))
  intro v2 w2 hO2 hgr _
  have hO3 : w2.ownsRow w.heap.size 30 2 v2 m news := by simpa using hO2
  obtain ⟨g', cap, rfl, hb', hcap, hC⟩ := rowIn_own hO3 h1
  go_wp2
  go_ret
  refine ⟨g', cap, ?_, hO3, ?_⟩
  · first | rfl | simp
  exact ⟨hgr.os, hgr.tape, hgr.output, Nat.le_trans (by simp) hgr.size, fun k hk => (hgr.block k (by simp; omega) (by simp [Value.ownBlock]; omega)).trans (Below.heap_alloc _ _ _ hk)⟩
set_option maxRecDepth 20000 in
theorem bclone_off {g o m cp : Nat} (news : List Value) (w : World) (hg : g < w.heap.size) (hc : ∀ j u, news[j]? = some u → w.cell? ⟨g, o + j, none⟩ = some u) (hl : news.length = m * 1) (hone : ∀ u ∈ news, u.oneCell' = true) (h1 : 1 ≤ m) (h2 : m ≤ 4096) : Calls Tryz.prog 49 #[.slice (some ⟨g, o, none⟩) m cp] w fun e w' => ∃ g' cap, e = .returned (.slice (some ⟨g', 0, none⟩) m cap) ∧ w'.ownsRow w.heap.size 5 1 (.slice (some ⟨g', 0, none⟩) m cap) m news ∧ Below w.heap.size w w' := by
  obtain ⟨i, hi, hz, hs, hby⟩ := info_parts (P := Tryz.prog) (e := 5) (z := .int .u8 0) (size := 1) (bytes := 1) (by kernel_rfl)
  have HI := hid hi
  have HZ := hid hz
  have HS := hid hs
  have HY := hid hby
  have hN := heap_new w (.cells #[] 5 (0, 0))
  have HO : Hid ((w.alloc (.cells #[] 5 (0, 0))).ownsRow w.heap.size 5 1 (.slice (some ⟨w.heap.size, 0, none⟩) 0 0) 0 []) := hid ⟨rfl, .inr ⟨w.heap.size, 0, #[], rfl, Nat.le_refl _, hN, Nat.le_refl _, Nat.zero_le _, rfl, rfl⟩⟩
  have hnews : ∀ j u, news[j]? = some u → (w.alloc (.cells #[] 5 (0, 0))).cell? ((⟨g, o, none⟩ : Addr).add j) = some u := by
    intro j u hj
    have key : (⟨g, o, none⟩ : Addr).add j = ⟨g, o + j, none⟩ := by unfold Addr.add; split <;> simp_all
    rw [key]
    exact (World.cell?_of_block (w := w) (Below.heap_alloc _ _ _ hg)).trans (hc j u hj)
  have HW := hid hnews
  have HL := hid hl
  have HONE := hid hone
  clear hi hz hs hby hnews hN hc hl hone
  have heq : ∀ (w : World), (binOp BinOp.eql 51 (.slice (some ⟨g, o, none⟩) m cp) (.slice none 0 0)).run Tryz.prog w = .ok (.bool false) w := fun _ => rfl
  go_enter Tryz.func49, Tryz.ntmps49
  go_wp2_with (at_builtin; go_loud (refine wpList_append_own _ rfl (.tmp 5) (.tmp 6) 51 rfl w.heap.size 5 i _ 1 1 Tryz.underlying51 HI.out HZ.out HS.out HY.out rfl (by decide) (.slice (some ⟨w.heap.size, 0, none⟩) 0 0) 0 [] rfl HO.out ⟨g, o, none⟩ m cp news rfl HL.out HW.out HONE.out (by simp [maxLen]; omega) (by omega) (by simp) ?_))
  intro v2 w2 hO2 hgr _
  have hO3 : w2.ownsRow w.heap.size 5 1 v2 m news := by simpa using hO2
  obtain ⟨g', cap, rfl, hb', hcap, hC⟩ := rowIn_own hO3 h1
  go_wp2
  go_ret
  refine ⟨g', cap, ?_, hO3, ?_⟩
  · first | rfl | simp
  exact ⟨hgr.os, hgr.tape, hgr.output, Nat.le_trans (by simp) hgr.size, fun k hk => (hgr.block k (by simp; omega) (by simp [Value.ownBlock]; omega)).trans (Below.heap_alloc _ _ _ hk)⟩
theorem rclone_nil (w : World) : Calls Tryz.prog 50 #[.slice none 0 0] w fun e w' => e = .returned (.slice none 0 0) ∧ w = w' := by
  have heq : ∀ (w : World), (binOp BinOp.eql 43 (.slice none 0 0) (.slice none 0 0)).run Tryz.prog w = .ok (.bool true) w := fun _ => rfl
  go_enter Tryz.func50, Tryz.ntmps50
  go_wp2
  go_ret
  exact ⟨rfl, rfl⟩
theorem bclone_nil (w : World) : Calls Tryz.prog 49 #[.slice none 0 0] w fun e w' => e = .returned (.slice none 0 0) ∧ w = w' := by
  have heq : ∀ (w : World), (binOp BinOp.eql 51 (.slice none 0 0) (.slice none 0 0)).run Tryz.prog w = .ok (.bool true) w := fun _ => rfl
  go_enter Tryz.func49, Tryz.ntmps49
  go_wp2
  go_ret
  exact ⟨rfl, rfl⟩
end Go.Proofs.YtnngicopphiaaaaGreatDoor.T
