/- Part 2 of 51 of a proof: lemmas on the functions that it reaches. -/
import Derived.Test.YtnngicopphiaaaaGreatDoorC01
import Derived.WalkKit
import Derived.ProofKit
import Derived.OpenShut
import Derived.BigQuiet
import Derived.Test.YtnngicopphiaaaaGreatDoorRows
import Derived.Deep.QuietTactic
import Derived.IntWalk
namespace Go.Burg
open Go Go.RowKit
structure Mod (S : Nat → Prop) (w w' : World) : Prop where
  os : w'.os = w.os
  tape : w'.tape = w.tape
  output : w'.output = w.output
  size : w.heap.size ≤ w'.heap.size
  block : ∀ k, k < w.heap.size → ¬ S k → w'.heap[k]? = w.heap[k]?
theorem Mod.refl (S : Nat → Prop) (w : World) : Mod S w w := ⟨rfl, rfl, rfl, Nat.le_refl _, fun _ _ _ => rfl⟩
theorem Mod.trans {S S' : Nat → Prop} {a b c : World} (h : Mod S a b) (k : Mod S' b c) (hs : ∀ i, i < a.heap.size → S' i → S i) : Mod S a c :=
  ⟨k.os.trans h.os, k.tape.trans h.tape, k.output.trans h.output, Nat.le_trans h.size k.size, fun i hi hn =>
    (k.block i (Nat.lt_of_lt_of_le hi h.size) (fun hx => hn (hs i hi hx))).trans (h.block i hi hn)⟩
theorem Mod.mono {S S' : Nat → Prop} {a b : World} (h : Mod S a b) (hs : ∀ i, i < a.heap.size → S i → S' i) : Mod S' a b :=
  ⟨h.os, h.tape, h.output, h.size, fun i hi hn => h.block i hi (fun hx => hn (hs i hi hx))⟩
theorem Mod.ofBelow {S : Nat → Prop} {a b : World} (h : Below a.heap.size a b) : Mod S a b := ⟨h.os, h.tape, h.output, h.size, fun i hi _ => h.block i hi⟩
theorem Mod.below {S : Nat → Prop} {a b : World} (h : Mod S a b) {B : Nat} (hB : B ≤ a.heap.size) (hs : ∀ i, i < B → ¬ S i) : Below B a b :=
  ⟨h.os, h.tape, h.output, h.size, fun i hi => h.block i (by omega) (hs i hi)⟩
theorem Mod.alloc {S : Nat → Prop} {a w : World} (h : Mod S a w) (o : Obj) : Mod S a (w.alloc o) :=
  ⟨h.os, h.tape, h.output, Nat.le_trans h.size (by simp), fun i hi hn => by rw [Below.heap_alloc _ _ _ (by have := h.size; omega)]; exact h.block i hi hn⟩
theorem Mod.drew {S : Nat → Prop} {a w : World} (h : Mod S a w) : Mod S a w.drew := ⟨h.os, h.tape, h.output, h.size, h.block⟩
theorem Mod.setCell {S : Nat → Prop} {a w : World} (h : Mod S a w) {p : Addr} (hp : S p.block ∨ a.heap.size ≤ p.block) (u : Value) : Mod S a (w.setCell p u) :=
  ⟨h.os, h.tape, h.output, by simpa [World.setCell] using h.size, fun i hi hn => by
    rw [Below.heap_setCell _ _ _ _ (fun e => by subst e; rcases hp with hp | hp; exact hn hp; omega)]; exact h.block i hi hn⟩
theorem hid {p : Prop} (h : p) : Hid p := h
theorem below_chain {B : Nat} {a b c : World} (h : Below B a b) (k : Below b.heap.size b c) (hB : B ≤ b.heap.size) : Below B a c := h.trans (k.mono hB)
theorem cell_of {w : World} {b : Nat} {cs : Array Value} {T : TypeId} {fz : Nat × Nat} (h : w.heap[b]? = some (.cells cs T fz)) (i : Nat) : w.cell? ⟨b, i, none⟩ = cs[i]? := by
  simp [World.cell?, h]
theorem free_of {w : World} {b : Nat} {cs : Array Value} {T : TypeId} (h : w.heap[b]? = some (.cells cs T (0, 0))) (i : Nat) : w.frozen? ⟨b, i, none⟩ = false := by
  simp [World.frozen?, h]
theorem lt_of_block {w : World} {b : Nat} {o : Obj} (h : w.heap[b]? = some o) : b < w.heap.size := (Array.getElem?_eq_some_iff.1 h).1
theorem heap_set {w : World} {b i : Nat} {v : Value} {cs : Array Value} {T : TypeId} {fz : Nat × Nat} (h : w.heap[b]? = some (.cells cs T fz)) :
    (w.setCell ⟨b, i, none⟩ v).heap[b]? = some (.cells (cs.setIfInBounds i v) T fz) := by
  simp [World.setCell, Array.getElem?_modify, h]
theorem heap_new (w : World) (o : Obj) : (w.alloc o).heap[w.heap.size]? = some o := by
  show (w.heap.push o)[w.heap.size]? = _
  simp
end Go.Burg

namespace Go.Burg
open Go
structure Kd where
  b : Int
  s : Int
  g : Int
def Rise (L : List Kd) : Prop := L.Pairwise fun k l => k.b < l.b
def ltK (y : Int) (k : Kd) : Bool := decide (k.b < y)
def idx (L : List Kd) (y : Int) : Nat := (L.takeWhile (ltK y)).length
def findK (L : List Kd) (y : Int) : Option Kd := L.find? fun k => decide (k.b = y)
def insK (L : List Kd) (k : Kd) : List Kd := L.takeWhile (ltK k.b) ++ k :: L.dropWhile (ltK k.b)
def delK (L : List Kd) (y : Int) : List Kd := L.filter fun k => decide (k.b ≠ y)
def turnK (L : List Kd) (y s g : Int) : List Kd := L.map fun k => if k.b = y then ⟨y, s, g⟩ else k
theorem idx_spec (L : List Kd) (y : Int) : idx L y ≤ L.length ∧ (∀ j k, j < idx L y → L[j]? = some k → k.b < y) ∧ (∀ k, L[idx L y]? = some k → y ≤ k.b) ∧ L.take (idx L y) = L.takeWhile (ltK y) ∧ L.drop (idx L y) = L.dropWhile (ltK y) := by
  induction L with
  | nil => simp [idx]
  | cons a L ih =>
    obtain ⟨h1, h2, h3, h4, h5⟩ := ih
    by_cases ha : a.b < y
    · have e : idx (a :: L) y = idx L y + 1 := by simp [idx, ltK, ha]
      have t1 : (a :: L).takeWhile (ltK y) = a :: L.takeWhile (ltK y) := by simp [ltK, ha]
      have t2 : (a :: L).dropWhile (ltK y) = L.dropWhile (ltK y) := by simp [ltK, ha]
      rw [e, t1, t2]
      refine ⟨by simp; exact h1, ?_, ?_, by simp [h4], by simp [h5]⟩
      · intro j k hj hk
        cases j with
        | zero => simp at hk; subst hk; exact ha
        | succ j => exact h2 j k (by omega) (by simpa using hk)
      · intro k hk
        exact h3 k (by simpa using hk)
    · have e : idx (a :: L) y = 0 := by simp [idx, ltK, ha]
      have t1 : (a :: L).takeWhile (ltK y) = [] := by simp [ltK, ha]
      have t2 : (a :: L).dropWhile (ltK y) = a :: L := by simp [ltK, ha]
      rw [e, t1, t2]
      refine ⟨by simp, by intro j k hj; omega, ?_, by simp, by simp⟩
      intro k hk
      simp at hk
      subst hk
      omega
theorem rise_cut {L : List Kd} (hR : Rise L) (y : Int) : ∃ A B, L = A ++ B ∧ A.length = idx L y ∧ (∀ k ∈ A, k.b < y) ∧ (B = [] ∨ ∃ h t, B = h :: t ∧ y ≤ h.b ∧ ∀ k ∈ t, h.b < k.b) := by
  obtain ⟨h1, h2, h3, h4, h5⟩ := idx_spec L y
  refine ⟨L.take (idx L y), L.drop (idx L y), (List.take_append_drop _ _).symm, by simp [h1], ?_, ?_⟩
  · intro k hk
    obtain ⟨j, hj, rfl⟩ := List.getElem_of_mem hk
    have hj2 : j < min (idx L y) L.length := by simpa using hj
    exact h2 j _ (by omega) (by simp)
  · cases hd : L.drop (idx L y) with
    | nil => exact .inl rfl
    | cons h t =>
      refine .inr ⟨h, t, rfl, h3 h ?_, ?_⟩
      · have := congrArg (·[0]?) hd
        simpa using this
      · have hp : (L.drop (idx L y)).Pairwise (fun k l => k.b < l.b) := hR.sublist (List.drop_sublist _ _)
        rw [hd] at hp
        exact fun k hk => (List.pairwise_cons.1 hp).1 k hk
theorem findK_yes {L : List Kd} (hR : Rise L) {y : Int} {k : Kd} (hk : L[idx L y]? = some k) (hy : k.b = y) : findK L y = some k := by
  obtain ⟨A, B, rfl, hA, hAl, hB⟩ := rise_cut hR y
  rw [← hA] at hk
  unfold findK
  rw [List.find?_append, List.find?_eq_none.2 (fun z hz => by have := hAl z hz; simp; omega)]
  rcases hB with rfl | ⟨h, t, rfl, h1, h2⟩
  · simp at hk
  · simp at hk
    subst hk
    simp [hy]
theorem findK_no {L : List Kd} (hR : Rise L) {y : Int} (hn : ∀ k, L[idx L y]? = some k → k.b ≠ y) : findK L y = none := by
  obtain ⟨A, B, rfl, hA, hAl, hB⟩ := rise_cut hR y
  unfold findK
  rw [List.find?_eq_none]
  rcases hB with rfl | ⟨h, t, rfl, h1, h2⟩
  · intro z hz
    have := hAl z (by simpa using hz)
    simp; omega
  · have hh : h.b ≠ y := hn h (by rw [← hA]; simp)
    intro z hz
    rcases List.mem_append.1 hz with hz | hz
    · have := hAl z hz; simp; omega
    · rcases List.mem_cons.1 hz with rfl | hz
      · simpa using hh
      · have := h2 z hz; simp; omega
theorem findK_iff {L : List Kd} (hR : Rise L) (y : Int) : (∃ k, L[idx L y]? = some k ∧ k.b = y ∧ findK L y = some k) ∨ ((∀ k, L[idx L y]? = some k → k.b ≠ y) ∧ findK L y = none) := by
  cases h : L[idx L y]? with
  | none => exact .inr ⟨(by intro k hk; cases hk), findK_no hR (by rw [h]; intro k hk; cases hk)⟩
  | some k =>
    by_cases hy : k.b = y
    · exact .inl ⟨k, rfl, hy, findK_yes hR h hy⟩
    · refine .inr ⟨fun k' hk => (by cases hk; exact hy), findK_no hR (by rw [h]; intro k' hk; cases hk; exact hy)⟩
theorem insK_eq (L : List Kd) (k : Kd) : insK L k = L.take (idx L k.b) ++ k :: L.drop (idx L k.b) := by
  obtain ⟨_, _, _, h4, h5⟩ := idx_spec L k.b
  rw [h4, h5]; rfl
theorem insK_len (L : List Kd) (k : Kd) : (insK L k).length = L.length + 1 := by
  rw [insK_eq]
  have := (idx_spec L k.b).1
  simp
  omega
theorem insK_rise {L : List Kd} (hR : Rise L) {k : Kd} (hn : findK L k.b = none) : Rise (insK L k) := by
  obtain ⟨A, B, e, hA, hAl, hB⟩ := rise_cut hR k.b
  rw [insK_eq, ← hA, e, List.take_left, List.drop_left]
  have hne : ∀ z ∈ L, z.b ≠ k.b := fun z hz => by have := (List.find?_eq_none.1 hn) z hz; simpa using this
  subst e
  have hR2 := List.pairwise_append.1 hR
  refine List.pairwise_append.2 ⟨hR2.1, List.pairwise_cons.2 ⟨?_, hR2.2.1⟩, ?_⟩
  · intro z hz
    rcases hB with rfl | ⟨h, t, rfl, h1, h2⟩
    · cases hz
    · have hh := hne h (by simp)
      rcases List.mem_cons.1 hz with rfl | hz
      · omega
      · have := h2 z hz; omega
  · intro a ha b hb
    rcases List.mem_cons.1 hb with rfl | hb
    · exact hAl a ha
    · exact hR2.2.2 a ha b hb
theorem insK_last {L : List Kd} {k : Kd} (h : ∀ z ∈ L, z.b < k.b) : insK L k = L ++ [k] := by
  unfold insK
  have e : L.takeWhile (ltK k.b) = L ∧ L.dropWhile (ltK k.b) = [] := by
    induction L with
    | nil => simp
    | cons a L ih =>
      have ha : ltK k.b a = true := by simpa [ltK] using h a (by simp)
      obtain ⟨i1, i2⟩ := ih (fun z hz => h z (by simp [hz]))
      simp [ha, i1, i2]
  obtain ⟨e, e2⟩ := e
  rw [e, e2]
theorem delK_eq {L : List Kd} (hR : Rise L) {y : Int} {k : Kd} (hk : L[idx L y]? = some k) (hy : k.b = y) : delK L y = L.take (idx L y) ++ L.drop (idx L y + 1) := by
  obtain ⟨A, B, rfl, hA, hAl, hB⟩ := rise_cut hR y
  rw [← hA] at hk ⊢
  unfold delK
  rcases hB with rfl | ⟨h, t, rfl, h1, h2⟩
  · simp at hk
  · simp at hk
    subst hk
    have e1 : A.filter (fun z => decide (z.b ≠ y)) = A := List.filter_eq_self.2 (fun z hz => by have := hAl z hz; simp; omega)
    have e2 : t.filter (fun z => decide (z.b ≠ y)) = t := List.filter_eq_self.2 (fun z hz => by have := h2 z hz; simp; omega)
    rw [List.filter_append, e1, List.filter_cons, if_neg (by simpa using hy), e2, List.take_left, List.drop_append]
    simp
theorem delK_rise {L : List Kd} (hR : Rise L) (y : Int) : Rise (delK L y) := hR.sublist (List.filter_sublist)
theorem turnK_eq {L : List Kd} (hR : Rise L) {y s g : Int} {k : Kd} (hk : L[idx L y]? = some k) (hy : k.b = y) : turnK L y s g = L.set (idx L y) ⟨y, s, g⟩ := by
  obtain ⟨A, B, rfl, hA, hAl, hB⟩ := rise_cut hR y
  rw [← hA] at hk ⊢
  unfold turnK
  rcases hB with rfl | ⟨h, t, rfl, h1, h2⟩
  · simp at hk
  · simp at hk
    subst hk
    have e1 : A.map (fun k => if k.b = y then (⟨y, s, g⟩ : Kd) else k) = A := by
      conv => rhs; rw [← List.map_id A]
      exact List.map_congr_left (fun z hz => by have := hAl z hz; rw [if_neg (by omega)]; rfl)
    have e2 : t.map (fun k => if k.b = y then (⟨y, s, g⟩ : Kd) else k) = t := by
      conv => rhs; rw [← List.map_id t]
      exact List.map_congr_left (fun z hz => by have := h2 z hz; rw [if_neg (by omega)]; rfl)
    rw [List.map_append, e1, List.map_cons, if_pos hy, e2, List.set_append_right _ _ (Nat.le_refl _)]
    simp
theorem turnK_rise {L : List Kd} (hR : Rise L) (y s g : Int) : Rise (turnK L y s g) := by
  unfold turnK Rise
  rw [List.pairwise_map]
  refine List.Pairwise.imp (fun {a b} h => ?_) hR
  have e : ∀ k : Kd, (if k.b = y then (⟨y, s, g⟩ : Kd) else k).b = k.b := fun k => by split <;> simp_all
  rw [e, e]
  exact h
end Go.Burg

namespace Go.Burg
open Go Go.RowKit
structure Mw where
  at' : Nat → Nat
  s : Nat → Int
  g : Nat → Int
  u : Nat → Bool
structure ManyAt (T Tr Tb : TypeId) (w : World) (x gr gu r : Nat) (M : Mw) : Prop where
  hx : ∃ cs, w.heap[x]? = some (.cells cs T (0, 0)) ∧ cs.size = 258 ∧ (∀ b, b < 256 → cs[b]? = some (.int .u16 (M.at' b))) ∧ cs[256]? = some (.slice (some ⟨gr, 0, none⟩) r r) ∧ cs[257]? = some (.slice (some ⟨gu, 0, none⟩) r r)
  hr : ∃ cs, w.heap[gr]? = some (.cells cs Tr (0, 0)) ∧ cs.size = r * 2 ∧ ∀ p, p < r → cs[p * 2]? = some (.int .i64 (M.s p)) ∧ cs[p * 2 + 1]? = some (.int .u32 (M.g p))
  hu : ∃ cs, w.heap[gu]? = some (.cells cs Tb (0, 0)) ∧ cs.size = r ∧ ∀ p, p < r → cs[p]? = some (.bool (M.u p))
  ne1 : x ≠ gr
  ne2 : x ≠ gu
  ne3 : gr ≠ gu
  r1 : 48 ≤ r
  r2 : r ≤ 256
  at_le : ∀ b, b < 256 → M.at' b ≤ r
def FirstFree (M : Mw) (r p : Nat) : Prop := p < r ∧ M.u p = false ∧ ∀ j, j < p → M.u j = true
section
variable {T Tr Tb : TypeId} {w w' : World} {x gr gu r : Nat} {M : Mw}
theorem ManyAt.lt (h : ManyAt T Tr Tb w x gr gu r M) : x < w.heap.size ∧ gr < w.heap.size ∧ gu < w.heap.size := by
  obtain ⟨_, h1, _⟩ := h.hx
  obtain ⟨_, h2, _⟩ := h.hr
  obtain ⟨_, h3, _⟩ := h.hu
  exact ⟨lt_of_block h1, lt_of_block h2, lt_of_block h3⟩
theorem ManyAt.same (h : ManyAt T Tr Tb w x gr gu r M) (e1 : w'.heap[x]? = w.heap[x]?) (e2 : w'.heap[gr]? = w.heap[gr]?) (e3 : w'.heap[gu]? = w.heap[gu]?) : ManyAt T Tr Tb w' x gr gu r M :=
  ⟨by obtain ⟨c, h1, h2⟩ := h.hx; exact ⟨c, e1.trans h1, h2⟩, by obtain ⟨c, h1, h2⟩ := h.hr; exact ⟨c, e2.trans h1, h2⟩, by obtain ⟨c, h1, h2⟩ := h.hu; exact ⟨c, e3.trans h1, h2⟩, h.ne1, h.ne2, h.ne3, h.r1, h.r2, h.at_le⟩
theorem ManyAt.keep (h : ManyAt T Tr Tb w x gr gu r M) (k : Below w.heap.size w w') : ManyAt T Tr Tb w' x gr gu r M := h.same (k.block _ h.lt.1) (k.block _ h.lt.2.1) (k.block _ h.lt.2.2)
theorem ManyAt.mod {S : Nat → Prop} (h : ManyAt T Tr Tb w x gr gu r M) (k : Mod S w w') (h1 : ¬ S x) (h2 : ¬ S gr) (h3 : ¬ S gu) : ManyAt T Tr Tb w' x gr gu r M := h.same (k.block _ h.lt.1 h1) (k.block _ h.lt.2.1 h2) (k.block _ h.lt.2.2 h3)
theorem ManyAt.alloc (h : ManyAt T Tr Tb w x gr gu r M) (o : Obj) : ManyAt T Tr Tb (w.alloc o) x gr gu r M := h.same (Below.heap_alloc _ _ _ h.lt.1) (Below.heap_alloc _ _ _ h.lt.2.1) (Below.heap_alloc _ _ _ h.lt.2.2)
theorem ManyAt.head (h : ManyAt T Tr Tb w x gr gu r M) : w.cell? ⟨x, 256, none⟩ = some (.slice (some ⟨gr, 0, none⟩) r r) ∧ w.cell? ⟨x, 257, none⟩ = some (.slice (some ⟨gu, 0, none⟩) r r) := by
  obtain ⟨c, h1, _, _, h4, h5⟩ := h.hx
  exact ⟨(cell_of h1 _).trans h4, (cell_of h1 _).trans h5⟩
theorem ManyAt.at1 (h : ManyAt T Tr Tb w x gr gu r M) {b : Nat} (hb : b < 256) : w.cell? ⟨x, b, none⟩ = some (.int .u16 (M.at' b)) ∧ w.frozen? ⟨x, b, none⟩ = false := by
  obtain ⟨c, h1, _, h3, _⟩ := h.hx
  exact ⟨(cell_of h1 _).trans (h3 b hb), free_of h1 _⟩
theorem ManyAt.ref (h : ManyAt T Tr Tb w x gr gu r M) {p : Nat} (hp : p < r) : w.cell? ⟨gr, p * 2, none⟩ = some (.int .i64 (M.s p)) ∧ w.cell? ⟨gr, p * 2 + 1, none⟩ = some (.int .u32 (M.g p)) ∧ ∀ j, w.frozen? ⟨gr, j, none⟩ = false := by
  obtain ⟨c, h1, _, h3⟩ := h.hr
  exact ⟨(cell_of h1 _).trans (h3 p hp).1, (cell_of h1 _).trans (h3 p hp).2, free_of h1⟩
theorem ManyAt.used (h : ManyAt T Tr Tb w x gr gu r M) {p : Nat} (hp : p < r) : w.cell? ⟨gu, p, none⟩ = some (.bool (M.u p)) ∧ w.frozen? ⟨gu, p, none⟩ = false := by
  obtain ⟨c, h1, _, h3⟩ := h.hu
  exact ⟨(cell_of h1 _).trans (h3 p hp), free_of h1 _⟩
def Mw.setU (M : Mw) (p : Nat) (v : Bool) : Mw := { M with u := fun j => if j = p then v else M.u j }
def Mw.setR (M : Mw) (p : Nat) (s g : Int) : Mw := { M with s := fun j => if j = p then s else M.s j, g := fun j => if j = p then g else M.g j }
def Mw.setA (M : Mw) (b v : Nat) : Mw := { M with at' := fun j => if j = b then v else M.at' j }
theorem put_get {cs : Array Value} {i j : Nat} {v : Value} (hi : i < cs.size) : (cs.setIfInBounds i v)[j]? = if j = i then some v else cs[j]? := by
  rw [Array.getElem?_setIfInBounds]
  by_cases h : i = j
  · subst h; simp [hi]
  · rw [if_neg h, if_neg (fun e => h e.symm)]
theorem ManyAt.setU (h : ManyAt T Tr Tb w x gr gu r M) {p : Nat} (hp : p < r) (v : Bool) : ManyAt T Tr Tb (w.setCell ⟨gu, p, none⟩ (.bool v)) x gr gu r (M.setU p v) := by
  refine ⟨?_, ?_, ?_, h.ne1, h.ne2, h.ne3, h.r1, h.r2, h.at_le⟩
  · obtain ⟨c, h1, h2⟩ := h.hx
    exact ⟨c, (Below.heap_setCell _ _ _ _ (fun e => h.ne2 e)).trans h1, h2⟩
  · obtain ⟨c, h1, h2⟩ := h.hr
    exact ⟨c, (Below.heap_setCell _ _ _ _ (fun e => h.ne3 e)).trans h1, h2⟩
  · obtain ⟨c, h1, h2, h3⟩ := h.hu
    refine ⟨_, heap_set h1, by simpa using h2, fun j hj => ?_⟩
    rw [put_get (by omega)]
    unfold Mw.setU
    by_cases e : j = p
    · simp only [if_pos e]
    · simp only [if_neg e]; exact h3 j hj
theorem ManyAt.setR (h : ManyAt T Tr Tb w x gr gu r M) {p : Nat} (hp : p < r) (s g : Int) : ManyAt T Tr Tb ((w.setCell ⟨gr, p * 2, none⟩ (.int .i64 s)).setCell ⟨gr, p * 2 + 1, none⟩ (.int .u32 g)) x gr gu r (M.setR p s g) := by
  have e : ∀ (k i j : Nat) (u v : Value), k ≠ gr → ((w.setCell ⟨gr, i, none⟩ u).setCell ⟨gr, j, none⟩ v).heap[k]? = w.heap[k]? := fun k i j u v hk => (Below.heap_setCell _ _ _ _ hk).trans (Below.heap_setCell _ _ _ _ hk)
  refine ⟨?_, ?_, ?_, h.ne1, h.ne2, h.ne3, h.r1, h.r2, h.at_le⟩
  · obtain ⟨c, h1, h2⟩ := h.hx
    exact ⟨c, (e _ _ _ _ _ h.ne1).trans h1, h2⟩
  · obtain ⟨c, h1, h2, h3⟩ := h.hr
    refine ⟨_, heap_set (heap_set h1), by simpa using h2, fun j hj => ?_⟩
    rw [put_get (by simp; omega), put_get (by omega), put_get (by simp; omega), put_get (by omega)]
    unfold Mw.setR
    by_cases ej : j = p
    · subst ej
      rw [if_neg (by omega), if_pos rfl, if_pos rfl]
      simp
    · rw [if_neg (by omega), if_neg (by omega), if_neg (by omega), if_neg (by omega)]
      simp only [if_neg ej]
      exact h3 j hj
  · obtain ⟨c, h1, h2⟩ := h.hu
    exact ⟨c, (e _ _ _ _ _ (fun e => h.ne3 e.symm)).trans h1, h2⟩
theorem ManyAt.setA (h : ManyAt T Tr Tb w x gr gu r M) {b v : Nat} (hb : b < 256) (hv : v ≤ r) : ManyAt T Tr Tb (w.setCell ⟨x, b, none⟩ (.int .u16 v)) x gr gu r (M.setA b v) := by
  refine ⟨?_, ?_, ?_, h.ne1, h.ne2, h.ne3, h.r1, h.r2, fun j hj => ?_⟩
  · obtain ⟨c, h1, h2, h3, h4, h5⟩ := h.hx
    refine ⟨_, heap_set h1, by simpa using h2, fun j hj => ?_, ?_, ?_⟩
    · rw [put_get (by omega)]
      unfold Mw.setA
      by_cases e : j = b
      · simp only [if_pos e]
      · simp only [if_neg e]; exact h3 j hj
    · rw [put_get (by omega), if_neg (by omega)]; exact h4
    · rw [put_get (by omega), if_neg (by omega)]; exact h5
  · obtain ⟨c, h1, h2⟩ := h.hr
    exact ⟨c, (Below.heap_setCell _ _ _ _ (fun e => h.ne1 e.symm)).trans h1, h2⟩
  · obtain ⟨c, h1, h2⟩ := h.hu
    exact ⟨c, (Below.heap_setCell _ _ _ _ (fun e => h.ne2 e.symm)).trans h1, h2⟩
  · unfold Mw.setA
    by_cases e : j = b
    · simp only [if_pos e]; exact hv
    · simp only [if_neg e]; exact h.at_le j hj
end
end Go.Burg

namespace Go.Burg
open Go
section
variable {P : Program} {l : List Oper} {Q : Exit → Act → World → Prop} {a0 : Act}
def SeqI (P : Program) (ops : Array Oper) (I : (Nat → Bool) → World → Prop) : Nat → List Oper → Act → (Act → Prop) → Prop
  | _, [], a, K => K a
  | k, o :: l, a, K => ∃ a', (∀ D w, D k = false → (∀ j ∈ waits o, D j = true) → I D w → wpList P ops (Alone fun a1 w' => a1 = a' ∧ I (fun j => D j || j == k) w') [o] a w) ∧
      a' = a.put o.dst (a'.tmps.getD (o.dst.getD 0) undef) ∧ SeqI P ops I (k + 1) l a' K
theorem SeqI.nil {ops : Array Oper} {I : (Nat → Bool) → World → Prop} {k : Nat} {a : Act} {K : Act → Prop} (h : K a) : SeqI P ops I k [] a K := h
theorem SeqI.cons {ops : Array Oper} {I : (Nat → Bool) → World → Prop} {k : Nat} {o : Oper} {l : List Oper} {a a' : Act} {K : Act → Prop}
    (h : ∀ D w, D k = false → (∀ j ∈ waits o, D j = true) → I D w → wpList P ops (Alone fun a1 w' => a1 = a' ∧ I (fun j => D j || j == k) w') [o] a w)
    (hp : a' = a.put o.dst (a'.tmps.getD (o.dst.getD 0) undef)) (k1 : SeqI P ops I (k + 1) l a' K) : SeqI P ops I k (o :: l) a K := ⟨a', h, hp, k1⟩
theorem Seq.cons {ops : Array Oper} {R : World → Prop} {k : Nat} {o : Oper} {l : List Oper} {a a' : Act} {K : Act → Prop}
    (h : ∀ w, R w → wpList P ops (Alone fun a1 w' => a1 = a' ∧ R w') [o] a w)
    (hp : a' = a.put o.dst (a'.tmps.getD (o.dst.getD 0) undef)) (k1 : SeqI P ops (fun _ => R) (k + 1) l a' K) : SeqI P ops (fun _ => R) k (o :: l) a K := ⟨a', fun _ w _ _ hR => h w hR, hp, k1⟩
theorem SeqI_spec {ops : Array Oper} {I : (Nat → Bool) → World → Prop} {K : Act → Prop} : ∀ (l : List Oper) (k : Nat) (a : Act), SeqI P ops I k l a K →
    ∃ (xs : Nat → Value) (fr : Nat → Act), fr k = a ∧ (∀ i o, l[i]? = some o → fr (k + i + 1) = (fr (k + i)).put o.dst (xs (k + i)) ∧
      (∀ D w, D (k + i) = false → (∀ j ∈ waits o, D j = true) → I D w → wpList P ops (Alone fun a1 w' => a1 = fr (k + i + 1) ∧ I (fun j => D j || j == (k + i)) w') [o] (fr (k + i)) w)) ∧ K (fr (k + l.length)) := by
  intro l
  induction l with
  | nil => intro k a h; exact ⟨fun _ => undef, fun _ => a, rfl, by simp, h⟩
  | cons o l ih =>
    intro k a h
    obtain ⟨a', h1, h2, h3⟩ := h
    obtain ⟨xs, fr, hf, hall, hK⟩ := ih (k + 1) a' h3
    refine ⟨fun i => if i = k then a'.tmps.getD (o.dst.getD 0) undef else xs i, fun i => if i = k then a else fr i, by simp, ?_, ?_⟩
    · intro i o' ho
      cases i with
      | zero =>
        simp at ho
        subst ho
        have hne : k + 1 ≠ k := by omega
        simp only [Nat.add_zero, if_true, hne, if_false, hf]
        exact ⟨h2, h1⟩
      | succ i =>
        have := hall i o' (by simpa using ho)
        have e1 : k + (i + 1) = k + 1 + i := by omega
        have n1 : ¬ (k + 1 + i = k) := by omega
        have n2 : ¬ (k + 1 + i + 1 = k) := by omega
        rw [e1]
        simp only [n1, n2, if_false]
        exact this
    · have e1 : k + (o :: l).length = k + 1 + l.length := by simp; omega
      have n1 : ¬ (k + 1 + l.length = k) := by omega
      rw [e1]
      simp only [n1, if_false]
      exact hK
theorem alone_mono {ops : Array Oper} {o : Oper} {a : Act} {w : World} (K K' : Act → World → Prop) (hKK : ∀ a w, K a w → K' a w) (h : wpList P ops (Alone K) [o] a w) : wpList P ops (Alone K') [o] a w := by
  unfold wpList at *
  split
  · rename_i hw
    rw [if_pos hw] at h
    rcases h with h | ⟨_, _, _, hl⟩
    · refine .inl ?_
      unfold Oper.wp at *
      generalize (execOp a.eval o).run P w = r at *
      cases r with
      | ok n w' =>
        cases n <;> simp only [Oper.upon] at h ⊢
        case value v => exact hKK _ _ h
        case skip => exact hKK _ _ h
        case defer d => exact hKK _ _ h
        case enter f args =>
          refine Calls.mono h fun e w'' he => ?_
          cases e with
          | returned v => exact hKK _ _ he
          | panicked c => exact he.elim
          | outgrown => obtain ⟨_, _, he⟩ := he; exact he.elim
        case row row args => exact Rows.mono h fun v w'' hv => hKK _ _ hv
      | halt x w' => cases x <;> simp only [Oper.upon] at h <;> exact h.elim
    · exact hl.elim
  · rename_i hw
    rw [if_neg hw] at h
    exact hKK _ _ h
theorem wp_region_seqI {id : Nat} {w0 : World} (m : Nat) (I : (Nat → Bool) → World → Prop) (hm : P.follows .mixedOrders = true) (hg : good m l = true)
    (hlt : (dsts 0 (l.take m)).all (fun p => decide (p.2 < a0.tmps.size)) = true) (h0 : I (fun _ => false) w0.drew)
    (hs : SeqI P l.toArray I 0 (l.take m) a0 (fun F => ∀ D w, (∀ j, j < m → D j = true) → I D w → wpList P l.toArray Q (l.drop m) F w)) : (Code.region id l.toArray true).wp P Q a0 w0 := by
  have hg' := hg
  simp only [good, Bool.and_eq_true, decide_eq_true_eq] at hg'
  obtain ⟨⟨⟨hg1, hg2⟩, hml⟩, _⟩ := hg'
  have htk : ∀ i, i < m → (l.take m)[i]? = l[i]? := fun i hi => by simp [hi]
  obtain ⟨xs, fr, hf0, hall, hK⟩ := SeqI_spec (l.take m) 0 a0 hs
  have hdis := distinct_spec hg1
  have hmem' : ∀ p ∈ dsts 0 (l.take m), p.1 < m ∧ (l[p.1]?).bind (fun o => o.dst) = some p.2 := fun p hp => by
    obtain ⟨i', o', hi', hj', hd'⟩ := (mem_dsts (l.take m) 0 p.1 p.2).1 hp
    have h1 := (List.getElem?_eq_some_iff.1 hi').1
    simp only [List.length_take] at h1
    have h2 : p.1 = i' := by omega
    rw [htk i' (by omega)] at hi'
    exact ⟨by omega, by rw [h2, hi']; exact hd'⟩
  have hfr : ∀ i, i ≤ m → fr i = fillIf (fun j => decide (j < i)) a0 (dsts 0 (l.take m)) xs := by
    intro i
    induction i with
    | zero =>
      intro _
      rw [hf0]
      have : ∀ (ds : List (Nat × Tmp)) (a : Act), fillIf (fun j => decide (j < 0)) a ds xs = a := by
        intro ds
        induction ds with
        | nil => intro a; rfl
        | cons p ds ih => intro a; obtain ⟨j, d⟩ := p; simp only [fillIf]; exact ih a
      exact (this _ _).symm
    | succ i ih =>
      intro hi
      have hil : i < l.length := by omega
      have ho : (l.take m)[i]? = some l[i] := by rw [htk i (by omega)]; simp [hil]
      have h1 := (hall i l[i] ho).1
      simp only [Nat.zero_add] at h1
      rw [h1, ih (by omega)]
      cases hd : l[i].dst with
      | none =>
        simp only [Act.put]
        refine fillIf_congr _ _ fun p hp => ?_
        have hne : p.1 ≠ i := fun he => by
          have := (hmem' p hp).2
          rw [he] at this
          simp [hil, hd] at this
        constructor
        · simp only [decide_eq_decide]; omega
        · intro _; rfl
      | some d =>
        have := fillIf_set (D := fun j => decide (j < i)) (xs := xs) i (xs i) (dsts 0 (l.take m)) a0 d hdis ((mem_dsts (l.take m) 0 i d).2 ⟨i, l[i], ho, by omega, hd⟩) (by simp)
        rw [← this]
        refine fillIf_congr _ _ fun p _ => ⟨?_, fun _ => ?_⟩
        · by_cases h : p.1 = i
          · simp [h]
          · have hb : (p.1 == i) = false := by simpa using h
            simp only [hb, Bool.or_false, decide_eq_decide]; omega
        · split
          · rename_i h; rw [h]
          · rfl
  have hsz : ∀ (D : Nat → Bool) (ds : List (Nat × Tmp)) (a : Act), (fillIf D a ds xs).tmps.size = a.tmps.size := by
    intro D ds
    induction ds with
    | nil => intro a; rfl
    | cons p ds ih => intro a; obtain ⟨j, d⟩ := p; simp only [fillIf]; rw [ih]; split <;> simp [Act.put]
  refine wp_region_inv m hm hg (fun j v _ => ∀ d, (l[j]?).bind (fun o => o.dst) = some d → v = xs j) I h0 ?_ ?_
  · intro i o him ho D ys w hD hwait hV hI
    have ho' : (l.take m)[i]? = some o := by rw [htk i him]; exact ho
    have hok : looksOk l.toArray (dsts 0 (l.take m)) i o = true := by simpa using goodOps_spec (l.take m) 0 hg2 i o ho'
    obtain ⟨hput, hrun⟩ := hall i o ho'
    have h1 := hrun D w (by simpa using hD) hwait hI
    simp only [Nat.zero_add] at h1 hput
    have hstep : DoesG P l.toArray o (fr i) w (fun v w' => (∀ d, o.dst = some d → v = xs i) ∧ I (fun j => D j || j == i) w') := by
      refine Does_of_alone (alone_mono _ _ ?_ h1)
      rintro a w' ⟨rfl, hR⟩
      have hdef : ∀ (b : Act) (d : Option Tmp) (v : Value), (b.put d v).defers = b.defers := fun b d v => by cases d <;> rfl
      refine ⟨by rw [hput, hdef], fun v hv => ⟨fun d hd => ?_, hR⟩⟩
      rw [hput] at hv
      simp only [hd] at hv
      have hmem : (i, d) ∈ dsts 0 (l.take m) := (mem_dsts (l.take m) 0 i d).2 ⟨i, o, ho', by omega, hd⟩
      have hlt' : d < (fr i).tmps.size := by
        rw [hfr i (by omega), hsz]
        have := List.all_eq_true.1 hlt (i, d) hmem
        simpa using this
      have h3 := congrArg (fun b : Act => b.tmps.getD d undef) hv
      simpa [Act.put, hlt'] using h3.symm
    rw [hfr i (by omega)] at hstep
    -- from the frame of the text's order to the frame at hand
    have hok' := hok
    simp only [looksOk, Bool.and_eq_true, List.all_eq_true] at hok'
    have hlooks : ∀ t ∈ o.looksAt l.toArray, ∀ p ∈ dsts 0 (l.take m), t = p.2 → p.1 ∈ waits o := fun t ht p hp hte => by
      have h1 := hok'.1.1 t ht p hp
      subst hte
      simpa using h1
    have hwi : ∀ j ∈ waits o, j < i := fun j hj => by
      have := hok'.1.2 j hj
      simpa using this
    have hval : ∀ p ∈ dsts 0 (l.take m), p.1 ∈ waits o → xs p.1 = ys p.1 := fun p hp hw => (hV p.1 (hwait _ hw) p.2 (hmem' p hp).2).symm
    have hev : ∀ x ∈ o.op.operands, (fillIf (fun j => decide (j < i)) a0 (dsts 0 (l.take m)) xs).eval x = (fill a0 (dsts 0 (l.take m)) ys).eval x := fun x hx => by
      have hl : ∀ p ∈ dsts 0 (l.take m), x = .tmp p.2 → p.1 ∈ waits o := fun p hp hxe => hlooks p.2 (by
        subst hxe
        exact List.mem_append_left _ (List.mem_filterMap.2 ⟨.tmp p.2, by simpa using hx, rfl⟩)) p hp rfl
      rw [eval_fillIf x _ _ (fun p hp hxe => by simpa using hwi _ (hl p hp hxe))]
      exact eval_fill_congr x _ _ fun p hp hxe => hval p hp (hl p hp hxe)
    have hsel : ∀ cs b, o.op ≠ .select cs b := fun cs b he => by
      have := hok'.2
      rw [he] at this
      cases this
    have hexec := execOp_congr o hsel hev
    have hwant : Region.wanted o (yielded l.toArray (fillIf (fun j => decide (j < i)) a0 (dsts 0 (l.take m)) xs).tmps) = Region.wanted o (yielded l.toArray (fill a0 (dsts 0 (l.take m)) ys).tmps) := by
      unfold Region.wanted
      cases hgd : o.guard with
      | none => rfl
      | some gw =>
        obtain ⟨g, want⟩ := gw
        simp only []
        have hl : ∀ d, (l.toArray[g]?).bind (fun o => o.dst) = some d → ∀ p ∈ dsts 0 (l.take m), (.tmp d : Operand) = .tmp p.2 → p.1 ∈ waits o := fun d hd p hp hpe => hlooks p.2 (by
          refine List.mem_append_right _ ?_
          simp only [hgd]
          have hpd : d = p.2 := by cases hpe; rfl
          rw [hd, hpd]
          simp) p hp rfl
        have hy : yielded l.toArray (fillIf (fun j => decide (j < i)) a0 (dsts 0 (l.take m)) xs).tmps g = yielded l.toArray (fill a0 (dsts 0 (l.take m)) ys).tmps g := yielded_eval (fun d hd => by
          rw [eval_fillIf (.tmp d) _ _ (fun p hp hpe => by simpa using hwi _ (hl d hd p hp hpe))]
          exact eval_fill_congr (.tmp d) _ _ fun p hp hpe => hval p hp (hl d hd p hp hpe))
        rw [hy]
    have fin : ∀ v w', ((∀ d, o.dst = some d → v = xs i) ∧ I (fun j => D j || j == i) w') → ((∀ d, (l[i]?).bind (fun o => o.dst) = some d → v = xs i) ∧ (∀ j, D j = true → ∀ d, (l[j]?).bind (fun o => o.dst) = some d → ys j = xs j) ∧ I (fun j => D j || j == i) w') := fun v w' h =>
      ⟨fun d hd => h.1 d (by simpa [ho] using hd), fun j hj => hV j hj, h.2⟩
    unfold DoesG Does at *
    rw [hwant, hexec] at hstep
    split
    · rename_i hw
      rw [if_pos hw] at hstep
      generalize (execOp (fill a0 (dsts 0 (l.take m)) ys).eval o).run P w = r at *
      cases r with
      | ok n w' =>
        cases n <;> simp only [] at hstep ⊢
        case value v => exact fin _ _ hstep
        case skip => exact fin _ _ hstep
        case enter f args => exact Calls.mono hstep fun e w'' ⟨v, he, hv⟩ => ⟨v, he, fin _ _ hv⟩
        case row row args => exact Rows.mono hstep fun v w'' hv => fin _ _ hv
      | halt x w' => exact hstep
    · rename_i hw
      rw [if_neg hw] at hstep
      exact fin _ _ hstep
  · intro D ys w hD hV hI
    have hlen : (l.take m).length = m := by simp; omega
    rw [hlen, Nat.zero_add, hfr m (Nat.le_refl _)] at hK
    rw [fill_congr (xs' := xs)]
    · rw [fillIf_all _ _ (fun p hp => by simpa using (hmem' p hp).1)] at hK
      exact hK D w hD hI
    · intro p hp
      exact hV p.1 (hmem' p hp).1 p.2 (hmem' p hp).2
theorem wp_region_seq {id : Nat} {w0 : World} (m : Nat) (R : World → Prop) (hm : P.follows .mixedOrders = true) (hg : good m l = true)
    (hlt : (dsts 0 (l.take m)).all (fun p => decide (p.2 < a0.tmps.size)) = true) (h0 : R w0.drew)
    (hs : SeqI P l.toArray (fun _ => R) 0 (l.take m) a0 (fun F => ∀ (D : Nat → Bool) w, (∀ j, j < m → D j = true) → R w → wpList P l.toArray Q (l.drop m) F w)) : (Code.region id l.toArray true).wp P Q a0 w0 :=
  wp_region_seqI m (fun _ => R) hm hg hlt h0 hs
end
end Go.Burg

namespace Go.Proofs.YtnngicopphiaaaaGreatDoor.M
set_option maxRecDepth 8000
open Go.ChangeShapes Go.WideShapes Go.ChangeAt Go.RowKit Go.Burg
section
variable {w : World} {x gr gu r : Nat} {M : Mw}
theorem there_at (h : ManyAt 219 30 4 w x gr gu r M) : Calls Tryz.prog 193 #[.pointer (some ⟨x, 0, none⟩)] w fun e w' => e = .returned (.bool true) ∧ w = w' := by
  have c1 := h.head.1
  have hd : decide ((r : Int) > 0) = true := by have := h.r1; simp; omega
  go_enter Tryz.func193, Tryz.ntmps193
  go_wp2
  go_ret
  first | exact ⟨rfl, rfl⟩ | exact ⟨by simp; have := h.r1; omega, rfl⟩
theorem has_at (b : Nat) (hb : b < 256) (h : ManyAt 219 30 4 w x gr gu r M) : Calls Tryz.prog 191 #[.pointer (some ⟨x, 0, none⟩), .int .i64 b] w fun e w' => e = .returned (.bool (decide (0 < M.at' b))) ∧ w = w' := by
  have c1 := (h.at1 hb).1
  have hd : decide ((256 : Int) ≤ (b : Int)) = false := by simp; omega
  have hd2 : decide (256 ≤ b) = false := by simp; omega
  clear h
  go_enter Tryz.func191, Tryz.ntmps191
  go_wp2
  go_ret
  exact ⟨by simp, rfl⟩
theorem ref_at (b p : Nat) (hb : b < 256) (h : ManyAt 219 30 4 w x gr gu r M) (hp : M.at' b = p + 1) : Calls Tryz.prog 192 #[.pointer (some ⟨x, 0, none⟩), .int .i64 b] w fun e w' => e = .returned (.pointer (some ⟨gr, p * 2, none⟩)) ∧ Below w.heap.size w w' := by
  have c1 := (h.at1 hb).1
  rw [hp] at c1
  have c2 := h.head.1
  have hpr : p < r := by have := h.at_le b hb; omega
  have hr := h.r2
  have hd2 : decide (256 ≤ b) = false := by simp; omega
  have hd3 : decide (r ≤ p) = false := by simp; omega
  clear h hp
  go_enter Tryz.func192, Tryz.ntmps192
  go_wp2_with fail
  go_quiet (fail)
  go_wp2
  go_ret
  exact ⟨rfl, ⟨rfl, rfl, rfl, Nat.le_refl _, fun _ _ => rfl⟩⟩
theorem index_at (p : Nat) (h : ManyAt 219 30 4 w x gr gu r M) (hp : FirstFree M r p) : Calls Tryz.prog 198 #[.slice (some ⟨gu, 0, none⟩) r r, .bool false] w fun e w' => e = .returned (.int .i64 p) ∧ w = w' := by
  have H := hid h
  have HP := hid hp
  have hr := h.r2
  clear h hp
  go_enter Tryz.func198, Tryz.ntmps198
  go_wp2_with fail
  go_loopw [8] (fun iv wr => ∃ k : Nat, k ≤ p ∧ iv = .int .i64 k ∧ wr = w) (fun iv _ => r - (intOf iv).toNat)
  case atStart => exact ⟨0, Nat.zero_le _, rfl, rfl⟩
  case round =>
    obtain ⟨k, hk, rfl, rfl⟩ := hrel
    have hpr := HP.out.1
    have hlt : k < r := by omega
    have c0 := (H.out.used hlt).1
    have hd : decide (r ≤ k) = false := by simp; omega
    by_cases hkp : k < p
    · rw [HP.out.2.2 k hkp] at c0
      go_wp2_with fail
      go_roundw
      case rel => exact ⟨k + 1, by omega, by go_num, by first | rfl | trivial⟩
      case measure => simp [intOf]; omega
    · obtain rfl : k = p := by omega
      rw [HP.out.2.1] at c0
      go_wp2_with fail
      go_ret
      exact ⟨rfl, rfl⟩
end
end Go.Proofs.YtnngicopphiaaaaGreatDoor.M
