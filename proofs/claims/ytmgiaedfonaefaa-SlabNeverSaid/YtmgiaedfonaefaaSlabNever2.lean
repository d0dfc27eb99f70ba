/- SlabNever: what stands at the head of a round; the slab's methods on an issued Ref. -/
import Derived.Test.YtmgiaedfonaefaaSlabNever1
namespace Go.Proofs.Ytmgiaedfonaefaa
open Go.ChangeShapes Go.WideShapes Go.ChangeAt Go.RowKit Go.Burg
open Go.Burg.Never

def toldOf (T : List Ent) : List Value := T.flatMap fun t => [.int .i64 (t.slot : Int), .int .u32 t.gen]
def livesOf (T : List Ent) : List Value := (T.map Ent.live).map Value.bool
def hasOf (T : List Ent) : List Value := T.map fun t => .int .i64 t.val

theorem toldOf_app (T : List Ent) (t : Ent) : toldOf (T ++ [t]) = toldOf T ++ [.int .i64 (t.slot : Int), .int .u32 t.gen] := by simp [toldOf]
theorem toldOf_len (T : List Ent) : (toldOf T).length = T.length * 2 := by
  induction T with
  | nil => rfl
  | cons t T ih => simp only [toldOf, List.flatMap_cons, List.length_append, List.length_cons, List.length_nil] at ih ⊢; omega
theorem toldOf_at : ∀ {T : List Ent} {n : Nat} {t : Ent}, T[n]? = some t → (toldOf T)[n * 2]? = some (.int .i64 (t.slot : Int)) ∧ (toldOf T)[n * 2 + 1]? = some (.int .u32 t.gen) := by
  intro T
  induction T with
  | nil => intro n t h; simp at h
  | cons a T ih =>
    intro n t h
    cases n with
    | zero => simp at h; subst h; simp [toldOf]
    | succ n =>
      simp at h
      have := ih h
      simp only [toldOf, List.flatMap_cons] at this ⊢
      rw [List.getElem?_append_right (by simp; omega), List.getElem?_append_right (by simp; omega)]
      simp only [List.length_cons, List.length_nil]
      rw [show (n + 1) * 2 - (0 + 1 + 1) = n * 2 by omega, show (n + 1) * 2 + 1 - (0 + 1 + 1) = n * 2 + 1 by omega]
      exact this
theorem toldOf_set (T : List Ent) (n : Nat) (t t' : Ent) (hn : T[n]? = some t) (e1 : t'.slot = t.slot) (e2 : t'.gen = t.gen) : toldOf (T.set n t') = toldOf T := by
  induction T generalizing n with
  | nil => simp at hn
  | cons a T ih =>
    cases n with
    | zero => simp at hn; subst hn; simp [toldOf, e1, e2]
    | succ n =>
      simp at hn
      have := ih n hn
      simp only [toldOf, List.set_cons_succ, List.flatMap_cons] at this ⊢
      rw [this]

structure NRel (w : World) (b g base s m : Nat) (vt vl vh : Value) (l : List (Cel Int)) (T : List Ent) (wr : World) : Prop where
  sa : SlabAt (fun x : Int => (.int .i64 x)) 69 66 wr b g l
  inv : Inv s m l T
  told : wr.ownsRow base 31 2 vt T.length (toldOf T)
  lives : wr.ownsRow base 4 1 vl T.length (livesOf T)
  has : wr.ownsRow base 3 1 vh T.length (hasOf T)
  ge : base ≤ wr.heap.size
  bl : b < base
  gl : g < base
  mod : Mod (fun i => w.heap.size ≤ i) w wr
  wb : w.heap.size ≤ b
  wg : w.heap.size ≤ g

theorem own_ne {w : World} {b1 b2 s1 s2 n1 n2 : Nat} {e1 e2 : TypeId} {v1 v2 : Value} {x1 x2 : List Value} (h1 : w.ownsRow b1 e1 s1 v1 n1 x1) (h2 : w.ownsRow b2 e2 s2 v2 n2 x2) (he : e1 ≠ e2) :
    v1.ownBlock = none ∨ v1.ownBlock ≠ v2.ownBlock := by
  rcases h1.2 with ⟨rfl, _⟩ | ⟨g1, c1, u1, rfl, _, q1, _⟩
  · exact .inl rfl
  · refine .inr fun e => ?_
    rcases h2.2 with ⟨rfl, _⟩ | ⟨g2, c2, u2, rfl, _, q2, _⟩
    · simp [Value.ownBlock] at e
    · simp [Value.ownBlock] at e
      subst e
      rw [q1] at q2
      simp at q2
      exact he q2.2

theorem own_base {w : World} {b1 s1 n1 g : Nat} {e1 : TypeId} {v1 : Value} {x1 : List Value} (h1 : w.ownsRow b1 e1 s1 v1 n1 x1) (hg : g < b1) : v1.ownBlock = none ∨ v1.ownBlock ≠ some g :=
  .inr fun e => by have := (h1.lt g e).1; omega

section
variable {w : World} {b g base s m : Nat} {vt vl vh : Value} {l : List (Cel Int)} {T : List Ent} {wr wr' : World}

/-- A call that turns the slab's places. -/
theorem NRel.turn (h : NRel w b g base s m vt vl vh l T wr) (k : Mod (· = g) wr wr') {l' : List (Cel Int)} (hs : SlabAt (fun x : Int => (.int .i64 x)) 69 66 wr' b g l') (hi : Inv s m l' T) : NRel w b g base s m vt vl vh l' T wr' :=
  ⟨hs, hi, h.told.kept (grown_mod k) (own_base h.told h.gl), h.lives.kept (grown_mod k) (own_base h.lives h.gl), h.has.kept (grown_mod k) (own_base h.has h.gl), Nat.le_trans h.ge k.size, h.bl, h.gl, mod_new h.mod k h.wg, h.wb, h.wg⟩
/-- A call that only makes new memory. -/
theorem NRel.keep (h : NRel w b g base s m vt vl vh l T wr) (k : Below wr.heap.size wr wr') : NRel w b g base s m vt vl vh l T wr' :=
  ⟨h.sa.keep k, h.inv, h.told.kept (grown_below k) (Classical.em _), h.lives.kept (grown_below k) (Classical.em _), h.has.kept (grown_below k) (Classical.em _), Nat.le_trans h.ge k.size, h.bl, h.gl, mod_bel h.mod k, h.wb, h.wg⟩

/-- An entry's flag is stored. -/
theorem NRel.put_live {gl cap n : Nat} {t : Ent} (h : NRel w b g base s m vt (.slice (some ⟨gl, 0, none⟩) T.length cap) vh l T wr) (hn : T[n]? = some t) (x : Bool) (hi : Inv s m l (T.set n ⟨t.slot, t.gen, x, t.val⟩)) :
    NRel w b g base s m vt (.slice (some ⟨gl, 0, none⟩) T.length cap) vh l (T.set n ⟨t.slot, t.gen, x, t.val⟩) (wr.setCell ⟨gl, n, none⟩ (.bool x)) := by
  obtain ⟨h1, h2⟩ := h.lives.stored n (.bool x)
  have hb := (h.lives.lt gl rfl).1
  have e1 : livesOf (T.set n ⟨t.slot, t.gen, x, t.val⟩) = (livesOf T).set n (.bool x) := by simp [livesOf, List.map_set]
  have e2 : hasOf (T.set n ⟨t.slot, t.gen, x, t.val⟩) = hasOf T := by
    rw [hasOf, List.map_set]
    apply List.ext_getElem?
    intro j
    by_cases e : n = j
    · subst e
      have hlt := (List.getElem?_eq_some_iff.1 hn).1
      rw [List.getElem?_set_self (by simpa using hlt), hasOf, List.getElem?_map, hn]
      rfl
    · rw [List.getElem?_set_ne e]
      rfl
  have bl := h.bl
  have gl' := h.gl
  refine ⟨h.sa.same (h2.block b h.sa.blt (by simp; omega)) (h2.block g h.sa.glt (by simp; omega)), hi, ?_, ?_, ?_, Nat.le_trans h.ge h2.size, h.bl, h.gl, ?_, h.wb, h.wg⟩
  · rw [toldOf_set T n t ⟨t.slot, t.gen, x, t.val⟩ hn rfl rfl, List.length_set]
    exact h.told.kept h2 (own_ne h.told h.lives (by decide))
  · rw [e1, List.length_set]
    exact h1
  · rw [e2, List.length_set]
    exact h.has.kept h2 (own_ne h.has h.lives (by decide))
  · have := h.wb
    exact h.mod.setCell (p := ⟨gl, n, none⟩) (.inl (by show w.heap.size ≤ gl; omega)) _

/-- An entry's value is stored. -/
theorem NRel.put_val {gl cap n : Nat} {t : Ent} (h : NRel w b g base s m vt vl (.slice (some ⟨gl, 0, none⟩) T.length cap) l T wr) (hn : T[n]? = some t) (x : Int) (hi : Inv s m l (T.set n ⟨t.slot, t.gen, t.live, x⟩)) :
    NRel w b g base s m vt vl (.slice (some ⟨gl, 0, none⟩) T.length cap) l (T.set n ⟨t.slot, t.gen, t.live, x⟩) (wr.setCell ⟨gl, n, none⟩ (.int .i64 x)) := by
  obtain ⟨h1, h2⟩ := h.has.stored n (.int .i64 x)
  have hb := (h.has.lt gl rfl).1
  have e1 : hasOf (T.set n ⟨t.slot, t.gen, t.live, x⟩) = (hasOf T).set n (.int .i64 x) := by simp [hasOf, List.map_set]
  have e2 : livesOf (T.set n ⟨t.slot, t.gen, t.live, x⟩) = livesOf T := by
    rw [livesOf, List.map_set]
    apply List.ext_getElem?
    intro j
    by_cases e : n = j
    · subst e
      have hlt := (List.getElem?_eq_some_iff.1 hn).1
      rw [List.getElem?_map, List.getElem?_set_self (by simpa using hlt), livesOf, List.getElem?_map, List.getElem?_map, hn]
      rfl
    · rw [List.getElem?_map, List.getElem?_set_ne e, livesOf, List.getElem?_map, List.getElem?_map, List.getElem?_map]
  have bl := h.bl
  have gl' := h.gl
  refine ⟨h.sa.same (h2.block b h.sa.blt (by simp; omega)) (h2.block g h.sa.glt (by simp; omega)), hi, ?_, ?_, ?_, Nat.le_trans h.ge h2.size, h.bl, h.gl, ?_, h.wb, h.wg⟩
  · rw [toldOf_set T n t ⟨t.slot, t.gen, t.live, x⟩ hn rfl rfl, List.length_set]
    exact h.told.kept h2 (own_ne h.told h.has (by decide))
  · rw [e2, List.length_set]
    exact h.lives.kept h2 (own_ne h.lives h.has (by decide))
  · rw [e1, List.length_set]
    exact h1
  · have := h.wb
    exact h.mod.setCell (p := ⟨gl, n, none⟩) (.inl (by show w.heap.size ≤ gl; omega)) _

/-- The slab's methods on an issued Ref. -/
theorem get_step {n : Nat} {t : Ent} (h : NRel w b g base s m vt vl vh l T wr) (hn : T[n]? = some t) :
    Calls Try.prog 13 #[.pointer (some ⟨b, 0, none⟩), .agg #[.int .i64 (t.slot : Int), .int .u32 t.gen]] wr fun e w' => e = .returned (.tuple #[.int .i64 (if t.live then t.val else 0), .bool t.live]) ∧ Below wr.heap.size wr w' := by
  cases hl : t.live
  · exact I.get_dead _ _ _ h.sa (fun i c hL => h.inv.dead hn hl i c hL)
  · obtain ⟨c, h1, h2, h3, h4⟩ := h.inv.live hn hl
    have := I.get_live (i := t.slot) (c := c) (t.slot : Int) t.gen _ h.sa ⟨rfl, h1, h2, h3⟩
    rw [h4] at this
    exact this

theorem free_step {n : Nat} {t : Ent} (h : NRel w b g base s m vt vl vh l T wr) (hn : T[n]? = some t) : ∃ l', Inv s m l' (T.set n ⟨t.slot, t.gen, false, t.val⟩) ∧
    Calls Try.prog 12 #[.pointer (some ⟨b, 0, none⟩), .agg #[.int .i64 (t.slot : Int), .int .u32 t.gen]] wr fun e w' => e = .returned (.int .i64 (if t.live then 0 else 5)) ∧ SlabAt (fun x : Int => (.int .i64 x)) 69 66 w' b g l' ∧ Mod (· = g) wr w' := by
  cases hl : t.live
  · refine ⟨l, h.inv.free_dead hn hl, (I.free_dead _ _ _ h.sa (fun i c hL => h.inv.dead hn hl i c hL)).mono ?_⟩
    rintro e w' ⟨rfl, hb⟩
    exact ⟨rfl, h.sa.keep hb, Mod.ofBelow hb⟩
  · obtain ⟨c, h1, h2, h3, h4⟩ := h.inv.live hn hl
    refine ⟨_, h.inv.free_live hn hl h1 h3 h2, ?_⟩
    exact I.free_live (i := t.slot) (c := c) (t.slot : Int) t.gen _ h.sa ⟨rfl, h1, h2, h3⟩

theorem set_step {n : Nat} {t : Ent} (x : Int) (h : NRel w b g base s m vt vl vh l T wr) (hn : T[n]? = some t) : ∃ l', Inv s m l' (T.set n ⟨t.slot, t.gen, t.live, x⟩) ∧
    Calls Try.prog 16 #[.pointer (some ⟨b, 0, none⟩), .agg #[.int .i64 (t.slot : Int), .int .u32 t.gen], .int .i64 x] wr fun e w' => e = .returned (.int .i64 (if t.live then 0 else 5)) ∧ SlabAt (fun x : Int => (.int .i64 x)) 69 66 w' b g l' ∧ Mod (· = g) wr w' := by
  cases hl : t.live
  · refine ⟨l, by have := h.inv.set_dead x hn hl; rwa [hl] at this, (I.set_dead _ _ x _ h.sa (fun i c hL => h.inv.dead hn hl i c hL)).mono ?_⟩
    rintro e w' ⟨rfl, hb⟩
    exact ⟨rfl, h.sa.keep hb, Mod.ofBelow hb⟩
  · obtain ⟨c, h1, h2, h3, h4⟩ := h.inv.live hn hl
    refine ⟨_, by have := h.inv.set_live x hn h1 h3; rwa [hl] at this, ?_⟩
    exact I.set_live (i := t.slot) (c := c) (t.slot : Int) t.gen x _ h.sa ⟨rfl, h1, h2, h3⟩
end
end Go.Proofs.Ytmgiaedfonaefaa
