/- What stands between two operations of SlabDoes. -/
import Derived.Test.YtmgiaedfonaefaaSame
import Derived.Test.YtmgiaedfonaefaaTurn2
import Derived.Test.YtmgiaedfonaefaaPick
namespace Go.Burg
open Go Go.RowKit
theorem first_of {α : Type} (l : List (Cel α)) : First l (-1) ∨ ∃ (k : Nat) (c : Cel α), First l (k : Int) ∧ l[k]? = some c ∧ c.room = true := by
  by_cases h : ∃ (j : Nat) (d : Cel α), l[j]? = some d ∧ d.room = true
  · obtain ⟨j, hj⟩ := h
    refine .inr ?_
    induction j using Nat.strongRecOn with
    | _ j ih =>
      obtain ⟨d, h1, h2⟩ := hj
      by_cases hm : ∃ i, i < j ∧ ∃ d : Cel α, l[i]? = some d ∧ d.room = true
      · obtain ⟨i, hi, hd⟩ := hm
        exact ih i hi hd
      · refine ⟨j, d, .inl ⟨j, d, rfl, h1, h2, fun i hi e he => ?_⟩, h1, h2⟩
        exact Bool.eq_false_iff.2 fun hr => hm ⟨i, hi, e, he, hr⟩
  · exact .inl (.inr ⟨rfl, fun j d hd => Bool.eq_false_iff.2 fun hr => h ⟨j, d, hd, hr⟩⟩)
theorem tag_ne {w : World} {i j : Nat} {c1 c2 : Array Value} {t1 t2 : TypeId} {f1 f2 : Nat × Nat} (h1 : w.heap[i]? = some (.cells c1 t1 f1)) (h2 : w.heap[j]? = some (.cells c2 t2 f2)) (h : t1 ≠ t2) : i ≠ j := fun e => by
  rw [e, h2] at h1
  simp at h1
  exact h h1.2.1.symm
theorem own_tag {w : World} {base s n k : Nat} {e t : TypeId} {v : Value} {x : List Value} {c : Array Value} {f : Nat × Nat} (h : w.ownsRow base e s v n x) (hk : w.heap[k]? = some (.cells c t f)) (ht : t ≠ e) : v.ownBlock = none ∨ v.ownBlock ≠ some k := by
  rcases h.2 with ⟨rfl, _⟩ | ⟨g, cap, cur, rfl, _, hg, _⟩
  · exact .inl rfl
  · refine .inr fun e => ?_
    simp only [Value.ownBlock, Option.some.injEq] at e
    exact tag_ne hk hg ht e.symm
theorem grown_one {g : Nat} {w w' : World} (h : Mod (· = g) w w') : w.grownBy w' (some g) := ⟨h.os, h.tape, h.output, h.size, fun k hk hn => h.block k hk (fun e => hn (by rw [e]))⟩
theorem grown_below {w w' : World} (h : Below w.heap.size w w') : w.grownBy w' none := ⟨h.os, h.tape, h.output, h.size, fun k hk _ => h.block k hk⟩
end Go.Burg
namespace Go.Proofs.Ytmgiaedfonaefaa.C
open Go.ChangeShapes Go.WideShapes Go.ChangeAt Go.RowKit Go.Burg Go.Shelf

def rflat (T : List (Int × Int)) : List Value := T.flatMap fun t => [.int .i64 t.1, .int .u32 t.2]
theorem rflat_cons (t : Int × Int) (T : List (Int × Int)) : rflat (t :: T) = .int .i64 t.1 :: .int .u32 t.2 :: rflat T := rfl
theorem rflat_app (T U : List (Int × Int)) : rflat (T ++ U) = rflat T ++ rflat U := by simp [rflat]
theorem rflat_at : ∀ (T : List (Int × Int)) (i : Nat) (t : Int × Int), T[i]? = some t → (rflat T)[i * 2]? = some (.int .i64 t.1) ∧ (rflat T)[i * 2 + 1]? = some (.int .u32 t.2)
  | [], i, t, h => by simp at h
  | u :: T, 0, t, h => by
    simp at h
    subst h
    exact ⟨rfl, rfl⟩
  | u :: T, i + 1, t, h => by
    have := rflat_at T i t (by simpa using h)
    rw [rflat_cons, show (i + 1) * 2 = i * 2 + 2 by omega]
    simpa using this

/-- Between two operations. -/
structure DR (w0 : World) (b g cp b2 g2 : Nat) (l l2 : List (Cel Int)) (tv : Value) (T : List (Int × Int)) (W : World) : Prop where
  sa : SlabC (fun x : Int => .int .i64 x) 69 66 W b g cp l
  ra : SlabAt (fun x : Int => .int .i64 x) 82 79 W b2 g2 l2
  told : W.ownsRow w0.heap.size 31 2 tv T.length (rflat T)
  mod : Mod (fun i => w0.heap.size ≤ i) w0 W
  wb : w0.heap.size ≤ b
  wg : w0.heap.size ≤ g
  wb2 : w0.heap.size ≤ b2
  wg2 : w0.heap.size ≤ g2

section
variable {w0 W W' : World} {b g cp b2 g2 : Nat} {l l2 l' : List (Cel Int)} {tv : Value} {T : List (Int × Int)}
theorem DR.below (h : DR w0 b g cp b2 g2 l l2 tv T W) (k : Below W.heap.size W W') : DR w0 b g cp b2 g2 l l2 tv T W' :=
  ⟨h.sa.keep k, h.ra.keep k, h.told.kept (grown_below k) (by cases hv : tv.ownBlock <;> simp), h.mod.trans (Mod.ofBelow (S := fun _ => False) k) (fun _ _ h => h.elim), h.wb, h.wg, h.wb2, h.wg2⟩
theorem DR.turn_s (h : DR w0 b g cp b2 g2 l l2 tv T W) (hs : SlabC (fun x : Int => .int .i64 x) 69 66 W' b g cp l') (k : Mod (· = g) W W') : DR w0 b g cp b2 g2 l' l2 tv T W' := by
  obtain ⟨cs, hg, _⟩ := h.sa.hc.hg
  obtain ⟨cs2, hg2, _⟩ := h.ra.hc.hg
  exact ⟨hs, h.ra.mod k (fun e => tag_ne h.ra.hb hg (by decide) e) (fun e => tag_ne hg2 hg (by decide) e), h.told.kept (grown_one k) (own_tag h.told hg (by decide)), h.mod.trans k (fun i _ e => by have := h.wg; omega), h.wb, h.wg, h.wb2, h.wg2⟩
theorem DR.turn_r (h : DR w0 b g cp b2 g2 l l2 tv T W) (hs : SlabAt (fun x : Int => .int .i64 x) 82 79 W' b2 g2 l') (k : Mod (· = g2) W W') : DR w0 b g cp b2 g2 l l' tv T W' := by
  obtain ⟨cs, hg, _⟩ := h.sa.hc.hg
  obtain ⟨cs2, hg2, _⟩ := h.ra.hc.hg
  exact ⟨h.sa.mod k (fun e => tag_ne h.sa.hb hg2 (by decide) e) (fun e => tag_ne hg hg2 (by decide) e), hs, h.told.kept (grown_one k) (own_tag h.told hg2 (by decide)), h.mod.trans k (fun i _ e => by have := h.wg2; omega), h.wb, h.wg, h.wb2, h.wg2⟩
/-- A cell that is none of these is stored. -/
theorem DR.put {k i : Nat} {c : Array Value} {t : TypeId} {f : Nat × Nat} (h : DR w0 b g cp b2 g2 l l2 tv T W) (v : Value) (hk : W.heap[k]? = some (.cells c t f)) (ht : t ≠ 69 ∧ t ≠ 66 ∧ t ≠ 82 ∧ t ≠ 79) (hw : w0.heap.size ≤ k) (hn : tv.ownBlock = none ∨ tv.ownBlock ≠ some k) :
    DR w0 b g cp b2 g2 l l2 tv T (W.setCell ⟨k, i, none⟩ v) := by
  obtain ⟨cs, hg, _⟩ := h.sa.hc.hg
  obtain ⟨cs2, hg2, _⟩ := h.ra.hc.hg
  have hM : Mod (· = k) W (W.setCell ⟨k, i, none⟩ v) := Mod.setCell (S := (· = k)) (p := ⟨k, i, none⟩) (Mod.refl _ _) (.inl rfl) v
  exact ⟨h.sa.mod hM (fun e => tag_ne h.sa.hb hk (fun e => ht.2.1 e.symm) e) (fun e => tag_ne hg hk (fun e => ht.1 e.symm) e), h.ra.mod hM (fun e => tag_ne h.ra.hb hk (fun e => ht.2.2.2 e.symm) e) (fun e => tag_ne hg2 hk (fun e => ht.2.2.1 e.symm) e),
    h.told.kept (grown_one hM) hn, h.mod.trans hM (fun i _ e => by omega), h.wb, h.wg, h.wb2, h.wg2⟩
theorem DR.cell (h : DR w0 b g cp b2 g2 l l2 tv T W) {p : Nat} {t : Int × Int} (hp : T[p]? = some t) : ∃ gt cap, tv = .slice (some ⟨gt, 0, none⟩) T.length cap ∧ W.cell? ⟨gt, p * 2, none⟩ = some (.int .i64 t.1) ∧ W.cell? ⟨gt, p * 2 + 1, none⟩ = some (.int .u32 t.2) := by
  have hpl := (List.getElem?_eq_some_iff.1 hp).1
  rcases h.told.2 with ⟨_, hn⟩ | ⟨gt, cap, cur, hv, _, hg, h1, h2, h3, h4⟩
  · omega
  · obtain ⟨a0, a1⟩ := rflat_at T p t hp
    have q : ∀ j, j < T.length * 2 → cur[j]? = (rflat T)[j]? := fun j hj => by rw [← h4, List.getElem?_take_of_lt hj, Array.getElem?_toList]
    exact ⟨gt, cap, hv, (cell_of hg _).trans ((q _ (by omega)).trans a0), (cell_of hg _).trans ((q _ (by omega)).trans a1)⟩
end

/-- With the boxes of does. -/
structure DX (w0 : World) (b g cp b2 g2 : Nat) (l l2 : List (Cel Int)) (tv : Value) (T : List (Int × Int)) (B : Nat) (what n x slot gen xs xg : Int) (W : World) : Prop where
  d : DR w0 b g cp b2 g2 l l2 tv T W
  k4 : W.heap[B]? = some (.cells #[.pointer (some ⟨b, 0, none⟩)] 23)
  k6 : W.heap[B + 1]? = some (.cells #[.int .i64 what, .int .i64 n, .int .i64 x, .int .i64 slot, .int .u32 gen] 43)
  k11 : W.heap[B + 2]? = some (.cells #[.int .i64 xs, .int .u32 xg] 31)
  wB : w0.heap.size ≤ B
  nt : tv.ownBlock = none ∨ tv.ownBlock ≠ some (B + 2)

section
variable {w0 W W' : World} {b g cp b2 g2 B : Nat} {l l2 l' : List (Cel Int)} {tv : Value} {T : List (Int × Int)} {what n x slot gen xs xg : Int}
theorem DX.below (h : DX w0 b g cp b2 g2 l l2 tv T B what n x slot gen xs xg W) (k : Below W.heap.size W W') : DX w0 b g cp b2 g2 l l2 tv T B what n x slot gen xs xg W' :=
  ⟨h.d.below k, blk_below h.k4 k (lt_of_block h.k4), blk_below h.k6 k (lt_of_block h.k6), blk_below h.k11 k (lt_of_block h.k11), h.wB, h.nt⟩
theorem DX.turn_s (h : DX w0 b g cp b2 g2 l l2 tv T B what n x slot gen xs xg W) (hs : SlabC (fun x : Int => .int .i64 x) 69 66 W' b g cp l') (k : Mod (· = g) W W') : DX w0 b g cp b2 g2 l' l2 tv T B what n x slot gen xs xg W' := by
  obtain ⟨cs, hg, _⟩ := h.d.sa.hc.hg
  exact ⟨h.d.turn_s hs k, (k.block _ (lt_of_block h.k4) (fun e => tag_ne h.k4 hg (by decide) e)).trans h.k4, (k.block _ (lt_of_block h.k6) (fun e => tag_ne h.k6 hg (by decide) e)).trans h.k6, (k.block _ (lt_of_block h.k11) (fun e => tag_ne h.k11 hg (by decide) e)).trans h.k11, h.wB, h.nt⟩
theorem DX.turn_r (h : DX w0 b g cp b2 g2 l l2 tv T B what n x slot gen xs xg W) (hs : SlabAt (fun x : Int => .int .i64 x) 82 79 W' b2 g2 l') (k : Mod (· = g2) W W') : DX w0 b g cp b2 g2 l l' tv T B what n x slot gen xs xg W' := by
  obtain ⟨cs, hg, _⟩ := h.d.ra.hc.hg
  exact ⟨h.d.turn_r hs k, (k.block _ (lt_of_block h.k4) (fun e => tag_ne h.k4 hg (by decide) e)).trans h.k4, (k.block _ (lt_of_block h.k6) (fun e => tag_ne h.k6 hg (by decide) e)).trans h.k6, (k.block _ (lt_of_block h.k11) (fun e => tag_ne h.k11 hg (by decide) e)).trans h.k11, h.wB, h.nt⟩
/-- The box of the Ref is stored anew. -/
theorem DX.put (h : DX w0 b g cp b2 g2 l l2 tv T B what n x slot gen xs xg W) (ys yg : Int) : DX w0 b g cp b2 g2 l l2 tv T B what n x slot gen ys yg ((W.setCell ⟨B + 2, 0, none⟩ (.int .i64 ys)).setCell ⟨B + 2, 1, none⟩ (.int .u32 yg)) := by
  have k0 : (W.setCell ⟨B + 2, 0, none⟩ (.int .i64 ys)).heap[B + 2]? = some (.cells #[.int .i64 ys, .int .u32 xg] 31) := by simpa using heap_set (i := 0) (v := .int .i64 ys) h.k11
  have k1 : ((W.setCell ⟨B + 2, 0, none⟩ (.int .i64 ys)).setCell ⟨B + 2, 1, none⟩ (.int .u32 yg)).heap[B + 2]? = some (.cells #[.int .i64 ys, .int .u32 yg] 31) := by simpa using heap_set (i := 1) (v := .int .u32 yg) k0
  have hM : Mod (· = B + 2) W ((W.setCell ⟨B + 2, 0, none⟩ (.int .i64 ys)).setCell ⟨B + 2, 1, none⟩ (.int .u32 yg)) := Mod.setCell (S := (· = B + 2)) (p := ⟨B + 2, 1, none⟩) (Mod.setCell (S := (· = B + 2)) (p := ⟨B + 2, 0, none⟩) (Mod.refl _ _) (.inl rfl) _) (.inl rfl) _
  have hw := h.wB
  exact ⟨(h.d.put _ h.k11 ⟨by decide, by decide, by decide, by decide⟩ (by omega) h.nt).put _ k0 ⟨by decide, by decide, by decide, by decide⟩ (by omega) h.nt, (hM.block _ (lt_of_block h.k4) (by omega)).trans h.k4, (hM.block _ (lt_of_block h.k6) (by omega)).trans h.k6, k1, h.wB, h.nt⟩
/-- The list of told Refs has grown. -/
theorem DX.grown (h : DX w0 b g cp b2 g2 l l2 tv T B what n x slot gen xs xg W) (hg : W.grownBy W' tv.ownBlock) {tv' : Value} {T' : List (Int × Int)} (ht : W'.ownsRow w0.heap.size 31 2 tv' T'.length (rflat T')) :
    DR w0 b g cp b2 g2 l l2 tv' T' W' ∧ W'.heap[B]? = some (.cells #[.pointer (some ⟨b, 0, none⟩)] 23) := by
  have key : ∀ (k : Nat) (c : Array Value) (t : TypeId) (f : Nat × Nat), W.heap[k]? = some (.cells c t f) → t ≠ 31 → W'.heap[k]? = W.heap[k]? := fun k c t f hk hne =>
    hg.block k (lt_of_block hk) (fun e => by
      rcases own_tag h.d.told hk hne with hh | hh
      · rw [hh] at e; cases e
      · exact hh e.symm)
  obtain ⟨cs, hc, _⟩ := h.d.sa.hc.hg
  obtain ⟨cs2, hc2, _⟩ := h.d.ra.hc.hg
  refine ⟨⟨h.d.sa.same (key _ _ _ _ h.d.sa.hb (by decide)) (key _ _ _ _ hc (by decide)), h.d.ra.same (key _ _ _ _ h.d.ra.hb (by decide)) (key _ _ _ _ hc2 (by decide)), ht, ?_, h.d.wb, h.d.wg, h.d.wb2, h.d.wg2⟩, (key _ _ _ _ h.k4 (by decide)).trans h.k4⟩
  exact h.d.mod.trans (S' := fun i => some i = tv.ownBlock) ⟨hg.os, hg.tape, hg.output, hg.size, fun k hk hn => hg.block k hk hn⟩ (fun i _ e => (h.d.told.lt i e.symm).1)
end

/-- The slab that was copied (its list is no matter), the copy, the reference, and the boxes of does. -/
structure DY (w0 : World) (b g cp b' g' cap b2 g2 : Nat) (l : List (Cel Int)) (tv : Value) (T : List (Int × Int)) (B : Nat) (what n x slot gen xs xg : Int) (W : World) : Prop where
  s : ∃ m, SlabC (fun x : Int => .int .i64 x) 69 66 W b g cp m
  d : DR w0 b' g' cap b2 g2 l l tv T W
  k4 : W.heap[B]? = some (.cells #[.pointer (some ⟨b, 0, none⟩)] 23)
  k6 : W.heap[B + 1]? = some (.cells #[.int .i64 what, .int .i64 n, .int .i64 x, .int .i64 slot, .int .u32 gen] 43)
  k11 : W.heap[B + 2]? = some (.cells #[.int .i64 xs, .int .u32 xg] 31)
  ne : g ≠ g'
  wg : w0.heap.size ≤ g
section
variable {w0 W W' : World} {b g cp b' g' cap b2 g2 B : Nat} {l m' : List (Cel Int)} {tv : Value} {T : List (Int × Int)} {what n x slot gen xs xg : Int}
theorem DY.below (h : DY w0 b g cp b' g' cap b2 g2 l tv T B what n x slot gen xs xg W) (k : Below W.heap.size W W') : DY w0 b g cp b' g' cap b2 g2 l tv T B what n x slot gen xs xg W' :=
  ⟨by obtain ⟨m, hm⟩ := h.s; exact ⟨m, hm.keep k⟩, h.d.below k, blk_below h.k4 k (lt_of_block h.k4), blk_below h.k6 k (lt_of_block h.k6), blk_below h.k11 k (lt_of_block h.k11), h.ne, h.wg⟩
theorem DY.turn (h : DY w0 b g cp b' g' cap b2 g2 l tv T B what n x slot gen xs xg W) (hs : SlabC (fun x : Int => .int .i64 x) 69 66 W' b g cp m') (k : Mod (· = g) W W') : DY w0 b g cp b' g' cap b2 g2 l tv T B what n x slot gen xs xg W' := by
  obtain ⟨m, hm⟩ := h.s
  obtain ⟨cs, hg, _⟩ := hm.hc.hg
  obtain ⟨cs2, hg2, _⟩ := h.d.ra.hc.hg
  exact ⟨⟨_, hs⟩, ⟨h.d.sa.mod k (fun e => tag_ne h.d.sa.hb hg (by decide) e) (fun e => h.ne e.symm), h.d.ra.mod k (fun e => tag_ne h.d.ra.hb hg (by decide) e) (fun e => tag_ne hg2 hg (by decide) e), h.d.told.kept (grown_one k) (own_tag h.d.told hg (by decide)), h.d.mod.trans k (fun i _ e => by have := h.wg; omega), h.d.wb, h.d.wg, h.d.wb2, h.d.wg2⟩,
    (k.block _ (lt_of_block h.k4) (fun e => tag_ne h.k4 hg (by decide) e)).trans h.k4, (k.block _ (lt_of_block h.k6) (fun e => tag_ne h.k6 hg (by decide) e)).trans h.k6, (k.block _ (lt_of_block h.k11) (fun e => tag_ne h.k11 hg (by decide) e)).trans h.k11, h.ne, h.wg⟩
/-- What the iterator and the loop turn is none of these. -/
theorem DY.kept (h : DY w0 b g cp b' g' cap b2 g2 l tv T B what n x slot gen xs xg W) {row : Option Nat} (hg : W.grownBy W' row) {base : Nat} (hb : w0.heap.size ≤ base)
    (hr : ∀ r, row = some r → base ≤ r ∧ ∃ o : Obj, W.heap[r]? = some o ∧ o.isCells = false) : DY w0 b g cp b' g' cap b2 g2 l tv T B what n x slot gen xs xg W' := by
  have kp : ∀ (k : Nat) (c : Array Value) (t : TypeId) (f : Nat × Nat), W.heap[k]? = some (.cells c t f) → W'.heap[k]? = W.heap[k]? := fun k c t f hk => (kept_cells hg hr hk rfl).trans hk.symm
  obtain ⟨m, hm⟩ := h.s
  obtain ⟨cs, h1, _⟩ := hm.hc.hg
  obtain ⟨cs2, h2, _⟩ := h.d.ra.hc.hg
  obtain ⟨cs3, h3, _⟩ := h.d.sa.hc.hg
  refine ⟨⟨m, hm.same (kp _ _ _ _ hm.hb) (kp _ _ _ _ h1)⟩, ⟨h.d.sa.same (kp _ _ _ _ h.d.sa.hb) (kp _ _ _ _ h3), h.d.ra.same (kp _ _ _ _ h.d.ra.hb) (kp _ _ _ _ h2), h.d.told.kept hg ?_, ?_, h.d.wb, h.d.wg, h.d.wb2, h.d.wg2⟩, (kp _ _ _ _ h.k4).trans h.k4, (kp _ _ _ _ h.k6).trans h.k6, (kp _ _ _ _ h.k11).trans h.k11, h.ne, h.wg⟩
  · rcases h.d.told.2 with ⟨rfl, _⟩ | ⟨gt, c2, cur, rfl, _, hgt, _⟩
    · exact .inl rfl
    · refine .inr fun e => ?_
      obtain ⟨_, o, ho, hn⟩ := hr gt e.symm
      rw [hgt] at ho
      cases ho
      cases hn
  · exact h.d.mod.trans (S' := fun i => some i = row) ⟨hg.os, hg.tape, hg.output, hg.size, fun k hk hn => hg.block k hk hn⟩ (fun i _ e => Nat.le_trans hb (hr i e.symm).1)
end
end Go.Proofs.Ytmgiaedfonaefaa.C
