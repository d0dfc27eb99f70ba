/- SlabNever: the three lists of a round while they grow; the take's steps. -/
import Derived.Test.YtmgiaedfonaefaaSlabNever2
import Derived.Test.YtmgiaedfonaefaaTurn
namespace Go.Burg
open Go
theorem first_ex {α : Type} (l : List (Cel α)) : First l (-1) ∨ ∃ (k : Nat) (c : Cel α), First l (k : Int) ∧ l[k]? = some c ∧ c.room = true := by
  by_cases h : ∃ (j : Nat) (d : Cel α), l[j]? = some d ∧ d.room = true
  · obtain ⟨j, hj⟩ := h
    refine .inr ?_
    induction j using Nat.strongRecOn with
    | _ j ih =>
      obtain ⟨d, h1, h2⟩ := hj
      by_cases hm : ∃ i, i < j ∧ ∃ d : Cel α, l[i]? = some d ∧ d.room = true
      · obtain ⟨i, hi, hd⟩ := hm
        exact ih i hi hd
      · refine ⟨j, d, .inl ⟨j, d, rfl, h1, h2, fun i hi e he => ?_⟩, h1, h2⟩
        exact Bool.eq_false_iff.2 fun hr => hm ⟨i, hi, e, he, hr⟩
  · exact .inl (.inr ⟨rfl, fun j d hd => Bool.eq_false_iff.2 fun hr => h ⟨j, d, hd, hr⟩⟩)
end Go.Burg
namespace Go.Proofs.Ytmgiaedfonaefaa
open Go.ChangeShapes Go.WideShapes Go.ChangeAt Go.RowKit Go.Burg
open Go.Burg.Never

theorem cnt_ent {base : Nat} {v : Value} (T : List Ent) (w : World) (n : Nat) (hn : T.countP Ent.live = n) (h : w.ownsRow base 4 1 v T.length (livesOf T)) (hT : T.length ≤ 200) :
    Calls Try.prog 15 #[v] w fun e w' => e = .returned (.int .i64 (n : Int)) ∧ w = w' := by
  have h1 := cnt_any (T.map Ent.live) w (by rw [List.length_map]; exact h) (by rw [List.length_map]; exact hT)
  rw [List.countP_map] at h1
  subst hn
  exact h1

structure R3 (w : World) (b g base : Nat) (vt : Value) (nt : Nat) (xt : List Value) (vl : Value) (nl : Nat) (xl : List Value) (vh : Value) (nh : Nat) (xh : List Value) (l : List (Cel Int)) (wr : World) : Prop where
  sa : SlabAt (fun x : Int => (.int .i64 x)) 69 66 wr b g l
  told : wr.ownsRow base 31 2 vt nt xt
  lives : wr.ownsRow base 4 1 vl nl xl
  has : wr.ownsRow base 3 1 vh nh xh
  ge : base ≤ wr.heap.size
  bl : b < base
  gl : g < base
  mod : Mod (fun i => w.heap.size ≤ i) w wr
  wb : w.heap.size ≤ b
  wg : w.heap.size ≤ g

section
variable {w : World} {b g base s m : Nat} {vt vl vh : Value} {nt nl nh : Nat} {xt xl xh : List Value} {l : List (Cel Int)} {T : List Ent} {wr wr' : World}
theorem NRel.r3 (h : NRel w b g base s m vt vl vh l T wr) : R3 w b g base vt T.length (toldOf T) vl T.length (livesOf T) vh T.length (hasOf T) l wr :=
  ⟨h.sa, h.told, h.lives, h.has, h.ge, h.bl, h.gl, h.mod, h.wb, h.wg⟩
theorem R3.rel (h : R3 w b g base vt T.length (toldOf T) vl T.length (livesOf T) vh T.length (hasOf T) l wr) (hi : Inv s m l T) : NRel w b g base s m vt vl vh l T wr :=
  ⟨h.sa, hi, h.told, h.lives, h.has, h.ge, h.bl, h.gl, h.mod, h.wb, h.wg⟩
theorem R3.turn (h : R3 w b g base vt nt xt vl nl xl vh nh xh l wr) (k : Mod (· = g) wr wr') {l' : List (Cel Int)} (hs : SlabAt (fun x : Int => (.int .i64 x)) 69 66 wr' b g l') : R3 w b g base vt nt xt vl nl xl vh nh xh l' wr' :=
  ⟨hs, h.told.kept (grown_mod k) (own_base h.told h.gl), h.lives.kept (grown_mod k) (own_base h.lives h.gl), h.has.kept (grown_mod k) (own_base h.has h.gl), Nat.le_trans h.ge k.size, h.bl, h.gl, mod_new h.mod k h.wg, h.wb, h.wg⟩
theorem R3.alloc (h : R3 w b g base vt nt xt vl nl xl vh nh xh l wr) (o : Obj) : R3 w b g base vt nt xt vl nl xl vh nh xh l (wr.alloc o) :=
  ⟨h.sa.alloc o, h.told.alloc o, h.lives.alloc o, h.has.alloc o, Nat.le_trans h.ge (by simp), h.bl, h.gl, h.mod.alloc o, h.wb, h.wg⟩
theorem R3.grown (h : R3 w b g base vt nt xt vl nl xl vh nh xh l wr) {v : Value} (hv : ∀ k, v.ownBlock = some k → base ≤ k) (hg : wr.grownBy wr' v.ownBlock) :
    SlabAt (fun x : Int => (.int .i64 x)) 69 66 wr' b g l ∧ base ≤ wr'.heap.size ∧ Mod (fun i => w.heap.size ≤ i) w wr' := by
  have hS : Mod (fun i => some i = v.ownBlock) wr wr' := ⟨hg.os, hg.tape, hg.output, hg.size, fun k hk hn => hg.block k hk hn⟩
  have bl := h.bl
  have gl := h.gl
  have wb := h.wb
  refine ⟨h.sa.mod hS (fun e => by have := hv b e.symm; omega) (fun e => by have := hv g e.symm; omega), Nat.le_trans h.ge hg.size, h.mod.trans hS fun i _ e => ?_⟩
  have := hv i e.symm
  omega
theorem R3.grow_t (h : R3 w b g base vt nt xt vl nl xl vh nh xh l wr) {v : Value} {n : Nat} {x : List Value} (ho : wr'.ownsRow base 31 2 v n x) (hg : wr.grownBy wr' vt.ownBlock) : R3 w b g base v n x vl nl xl vh nh xh l wr' := by
  obtain ⟨h1, h2, h3⟩ := h.grown (fun k e => (h.told.lt k e).1) hg
  exact ⟨h1, ho, h.lives.kept hg (own_ne h.lives h.told (by decide)), h.has.kept hg (own_ne h.has h.told (by decide)), h2, h.bl, h.gl, h3, h.wb, h.wg⟩
theorem R3.grow_l (h : R3 w b g base vt nt xt vl nl xl vh nh xh l wr) {v : Value} {n : Nat} {x : List Value} (ho : wr'.ownsRow base 4 1 v n x) (hg : wr.grownBy wr' vl.ownBlock) : R3 w b g base vt nt xt v n x vh nh xh l wr' := by
  obtain ⟨h1, h2, h3⟩ := h.grown (fun k e => (h.lives.lt k e).1) hg
  exact ⟨h1, h.told.kept hg (own_ne h.told h.lives (by decide)), ho, h.has.kept hg (own_ne h.has h.lives (by decide)), h2, h.bl, h.gl, h3, h.wb, h.wg⟩
theorem R3.grow_h (h : R3 w b g base vt nt xt vl nl xl vh nh xh l wr) {v : Value} {n : Nat} {x : List Value} (ho : wr'.ownsRow base 3 1 v n x) (hg : wr.grownBy wr' vh.ownBlock) : R3 w b g base vt nt xt vl nl xl v n x l wr' := by
  obtain ⟨h1, h2, h3⟩ := h.grown (fun k e => (h.has.lt k e).1) hg
  exact ⟨h1, h.told.kept hg (own_ne h.told h.has (by decide)), h.lives.kept hg (own_ne h.lives h.has (by decide)), ho, h2, h.bl, h.gl, h3, h.wb, h.wg⟩

theorem R3.old_mod (h : R3 w b g base vt nt xt vl nl xl vh nh xh l wr) (hM : Mod (· = g) wr wr') {bl : Nat} (hb : bl < w.heap.size) (j : Nat) : wr'.cell? ⟨bl, j, none⟩ = wr.cell? ⟨bl, j, none⟩ :=
  World.cell?_of_block (w := wr) (hM.block bl (Nat.lt_of_lt_of_le hb h.mod.size) (by have := h.wg; omega))

/-- A cell that came in reads as before. -/
theorem R3.old (h : R3 w b g base vt nt xt vl nl xl vh nh xh l wr) {bl : Nat} (hb : bl < w.heap.size) (j : Nat) : wr.cell? ⟨bl, j, none⟩ = w.cell? ⟨bl, j, none⟩ :=
  World.cell?_of_block (w := w) (h.mod.block bl hb (by omega))
theorem R3.keep (h : R3 w b g base vt nt xt vl nl xl vh nh xh l wr) (k : Below wr.heap.size wr wr') : R3 w b g base vt nt xt vl nl xl vh nh xh l wr' :=
  ⟨h.sa.keep k, h.told.kept (grown_below k) (Classical.em _), h.lives.kept (grown_below k) (Classical.em _), h.has.kept (grown_below k) (Classical.em _), Nat.le_trans h.ge k.size, h.bl, h.gl, mod_bel h.mod k, h.wb, h.wg⟩
theorem R3.put_l {gl cap : Nat} (h : R3 w b g base vt nt xt (.slice (some ⟨gl, 0, none⟩) nl cap) nl xl vh nh xh l wr) (n : Nat) (x : Value) :
    R3 w b g base vt nt xt (.slice (some ⟨gl, 0, none⟩) nl cap) nl (xl.set n x) vh nh xh l (wr.setCell ⟨gl, n, none⟩ x) := by
  obtain ⟨h1, h2⟩ := h.lives.stored n x
  obtain ⟨k1, k2, k3⟩ := h.grown (v := .slice (some ⟨gl, 0, none⟩) nl cap) (fun k e => (h.lives.lt k e).1) h2
  exact ⟨k1, h.told.kept h2 (own_ne h.told h.lives (by decide)), h1, h.has.kept h2 (own_ne h.has h.lives (by decide)), k2, h.bl, h.gl, k3, h.wb, h.wg⟩
theorem R3.put_h {gl cap : Nat} (h : R3 w b g base vt nt xt vl nl xl (.slice (some ⟨gl, 0, none⟩) nh cap) nh xh l wr) (n : Nat) (x : Value) :
    R3 w b g base vt nt xt vl nl xl (.slice (some ⟨gl, 0, none⟩) nh cap) nh (xh.set n x) l (wr.setCell ⟨gl, n, none⟩ x) := by
  obtain ⟨h1, h2⟩ := h.has.stored n x
  obtain ⟨k1, k2, k3⟩ := h.grown (v := .slice (some ⟨gl, 0, none⟩) nh cap) (fun k e => (h.has.lt k e).1) h2
  exact ⟨k1, h.told.kept h2 (own_ne h.told h.has (by decide)), h.lives.kept h2 (own_ne h.lives h.has (by decide)), h1, k2, h.bl, h.gl, k3, h.wb, h.wg⟩
end

theorem set_self {α : Type} : ∀ (l : List α) (n : Nat) (x : α), l[n]? = some x → l.set n x = l := by
  intro l
  induction l with
  | nil => intro n x h; rfl
  | cons a l ih =>
    intro n x h
    cases n with
    | zero => simp at h; simp [h]
    | succ n => simp at h; simp [ih n x h]
theorem lives_set (T : List Ent) (n : Nat) (t : Ent) : livesOf (T.set n t) = (livesOf T).set n (.bool t.live) := by simp [livesOf, List.map_set]
theorem has_set (T : List Ent) (n : Nat) (t : Ent) : hasOf (T.set n t) = (hasOf T).set n (.int .i64 t.val) := by simp [hasOf, List.map_set]

/-- An owned row's form. -/
theorem row_form {w : World} {base size n : Nat} {e : TypeId} {v : Value} {xs : List Value} (h : w.ownsRow base e size v n xs) : ∃ a cap, v = .slice a n cap ∧ (0 < n → ∃ g, a = some ⟨g, 0, none⟩ ∧ n ≤ cap ∧ cap ≤ maxLen) := by
  rcases h.2 with ⟨rfl, rfl⟩ | ⟨g, cap, cur, rfl, _, _, h1, h2, _⟩
  · exact ⟨none, 0, rfl, fun h => absurd h (Nat.lt_irrefl _)⟩
  · exact ⟨_, cap, rfl, fun _ => ⟨g, rfl, h1, h2⟩⟩

/-- What Free and Set make of an issued Ref, from whatever world that holds the slab. -/
theorem free_at {b g s m n : Nat} {l : List (Cel Int)} {T : List Ent} {t : Ent} (h : Inv s m l T) (hn : T[n]? = some t) : ∃ l', Inv s m l' (T.set n ⟨t.slot, t.gen, false, t.val⟩) ∧ ∀ w, SlabAt (fun x : Int => (.int .i64 x)) 69 66 w b g l →
    Calls Try.prog 12 #[.pointer (some ⟨b, 0, none⟩), .agg #[.int .i64 (t.slot : Int), .int .u32 t.gen]] w fun e w' => e = .returned (.int .i64 (if t.live then 0 else 5)) ∧ SlabAt (fun x : Int => (.int .i64 x)) 69 66 w' b g l' ∧ Mod (· = g) w w' := by
  cases hl : t.live
  · refine ⟨l, h.free_dead hn hl, fun w hs => (I.free_dead _ _ _ hs (fun i c hL => h.dead hn hl i c hL)).mono ?_⟩
    rintro e w' ⟨rfl, hb⟩
    exact ⟨rfl, hs.keep hb, Mod.ofBelow hb⟩
  · obtain ⟨c, h1, h2, h3, h4⟩ := h.live hn hl
    exact ⟨_, h.free_live hn hl h1 h3 h2, fun w hs => I.free_live (i := t.slot) (c := c) (t.slot : Int) t.gen _ hs ⟨rfl, h1, h2, h3⟩⟩

theorem set_at {b g s m n : Nat} {l : List (Cel Int)} {T : List Ent} {t : Ent} (x : Int) (h : Inv s m l T) (hn : T[n]? = some t) : ∃ l', Inv s m l' (T.set n ⟨t.slot, t.gen, t.live, x⟩) ∧ ∀ w, SlabAt (fun x : Int => (.int .i64 x)) 69 66 w b g l →
    Calls Try.prog 16 #[.pointer (some ⟨b, 0, none⟩), .agg #[.int .i64 (t.slot : Int), .int .u32 t.gen], .int .i64 x] w fun e w' => e = .returned (.int .i64 (if t.live then 0 else 5)) ∧ SlabAt (fun x : Int => (.int .i64 x)) 69 66 w' b g l' ∧ Mod (· = g) w w' := by
  cases hl : t.live
  · refine ⟨l, by have := h.set_dead x hn hl; rwa [hl] at this, fun w hs => (I.set_dead _ _ x _ hs (fun i c hL => h.dead hn hl i c hL)).mono ?_⟩
    rintro e w' ⟨rfl, hb⟩
    exact ⟨rfl, hs.keep hb, Mod.ofBelow hb⟩
  · obtain ⟨c, h1, h2, h3, h4⟩ := h.live hn hl
    refine ⟨_, by have := h.set_live x hn h1 h3; rwa [hl] at this, fun w hs => I.set_live (i := t.slot) (c := c) (t.slot : Int) t.gen x _ hs ⟨rfl, h1, h2, h3⟩⟩

/-- The cells of a box of two. -/
theorem news2 (w : World) (H : Nat) (v1 v2 : Value) (T : TypeId) (h : w.heap[H]? = some (.cells #[v1, v2] T (0, 0))) : ∀ j u, [v1, v2][j]? = some u → w.cell? ((⟨H, 0, none⟩ : Addr).add j) = some u := by
  intro j u hj
  rcases j with _ | _ | j
  · simp at hj; subst hj; exact cell_of h 0
  · simp at hj; subst hj; exact cell_of h 1
  · simp at hj
theorem news1 (w : World) (H : Nat) (v1 : Value) (T : TypeId) (h : w.heap[H]? = some (.cells #[v1] T (0, 0))) : ∀ j u, [v1][j]? = some u → w.cell? ((⟨H, 0, none⟩ : Addr).add j) = some u := by
  intro j u hj
  rcases j with _ | j
  · simp at hj; subst hj; exact cell_of h 0
  · simp at hj

/-- What Take does. -/
theorem take_at {b g s m : Nat} {l : List (Cel Int)} {T : List Ent} (x : Int) (h : Inv s m l T) (hm : m ≤ 1000) :
    (T.countP Ent.live = s ∧ ∀ w, SlabAt (fun x : Int => (.int .i64 x)) 69 66 w b g l → Calls Try.prog 10 #[.pointer (some ⟨b, 0, none⟩), .int .i64 x] w fun e w' => e = .returned (.tuple #[.agg #[.int .i64 0, .int .u32 0], .int .i64 14]) ∧ Below w.heap.size w w') ∨
    ∃ (kk : Nat) (ge : Int) (l' : List (Cel Int)), T.countP Ent.live < s ∧ (∀ t ∈ T, ¬ (t.slot = kk ∧ t.gen = ge)) ∧ Inv s (m + 1) l' (T ++ [⟨kk, ge, true, x⟩]) ∧
      ∀ w, SlabAt (fun x : Int => (.int .i64 x)) 69 66 w b g l → Calls Try.prog 10 #[.pointer (some ⟨b, 0, none⟩), .int .i64 x] w fun e w' => e = .returned (.tuple #[.agg #[.int .i64 (kk : Int), .int .u32 ge], .int .i64 0]) ∧ SlabAt (fun x : Int => (.int .i64 x)) 69 66 w' b g l' ∧ Mod (· = g) w w' := by
  rcases first_ex l with hF | ⟨kk, c, hF, hk, hc⟩
  · exact .inl ⟨h.take_no hm hF, fun w hs => I.take_no x w hs hF⟩
  · obtain ⟨h1, h2, h3⟩ := h.take_yes x hk hc
    exact .inr ⟨kk, c.gen + 1, _, h1, h2, h3, fun w hs => I.take_yes x w hs hF hk hc⟩

theorem len_at {b g : Nat} {l : List (Cel Int)} {n : Nat} (hn : l.countP Cel.is = n) (w : World) (h : SlabAt (fun x : Int => (.int .i64 x)) 69 66 w b g l) :
    Calls Try.prog 14 #[.pointer (some ⟨b, 0, none⟩)] w fun e w' => e = .returned (.int .i64 (n : Int)) ∧ Below w.heap.size w w' := by
  subst hn
  exact I.len_any w h
theorem left_at {b g : Nat} {l : List (Cel Int)} {n : Nat} (hn : l.countP Cel.room = n) (w : World) (h : SlabAt (fun x : Int => (.int .i64 x)) 69 66 w b g l) :
    Calls Try.prog 11 #[.pointer (some ⟨b, 0, none⟩)] w fun e w' => e = .returned (.int .i64 (n : Int)) ∧ Below w.heap.size w w' := by
  subst hn
  exact I.left_any w h

section
variable {w : World} {b g base s m : Nat} {vt vl vh : Value} {l : List (Cel Int)} {T : List Ent} {wr : World}
theorem R3.set_live {p : Nat} {t : Ent} {x : Bool} (h : R3 w b g base vt T.length (toldOf T) vl T.length ((livesOf T).set p (.bool x)) vh T.length (hasOf T) l wr) (ht : T[p]? = some t)
    (hi : Inv s m l (T.set p ⟨t.slot, t.gen, x, t.val⟩)) : NRel w b g base s m vt vl vh l (T.set p ⟨t.slot, t.gen, x, t.val⟩) wr := by
  refine R3.rel ?_ hi
  rw [List.length_set, toldOf_set T p t ⟨t.slot, t.gen, x, t.val⟩ ht rfl rfl, lives_set, has_set, set_self (hasOf T) p]
  · exact h
  · rw [hasOf, List.getElem?_map, ht]; rfl
theorem R3.set_val {p : Nat} {t : Ent} {x : Int} (h : R3 w b g base vt T.length (toldOf T) vl T.length (livesOf T) vh T.length ((hasOf T).set p (.int .i64 x)) l wr) (ht : T[p]? = some t)
    (hi : Inv s m l (T.set p ⟨t.slot, t.gen, t.live, x⟩)) : NRel w b g base s m vt vl vh l (T.set p ⟨t.slot, t.gen, t.live, x⟩) wr := by
  refine R3.rel ?_ hi
  rw [List.length_set, toldOf_set T p t ⟨t.slot, t.gen, t.live, x⟩ ht rfl rfl, lives_set, has_set, set_self (livesOf T) p]
  · exact h
  · rw [livesOf, List.getElem?_map, List.getElem?_map, ht]; rfl
theorem R3.app {kk : Nat} {ge x : Int} (h : R3 w b g base vt (T.length + 1) (toldOf T ++ [.int .i64 (kk : Int), .int .u32 ge]) vl (T.length + 1) (livesOf T ++ [.bool true]) vh (T.length + 1) (hasOf T ++ [.int .i64 x]) l wr)
    (hi : Inv s m l (T ++ [⟨kk, ge, true, x⟩])) : NRel w b g base s m vt vl vh l (T ++ [⟨kk, ge, true, x⟩]) wr := by
  refine R3.rel ?_ hi
  have e1 : livesOf (T ++ [⟨kk, ge, true, x⟩]) = livesOf T ++ [.bool true] := by simp [livesOf]
  have e2 : hasOf (T ++ [⟨kk, ge, true, x⟩]) = hasOf T ++ [.int .i64 x] := by simp [hasOf]
  rw [List.length_append, toldOf_app, e1, e2]
  exact h
theorem lives_at {p : Nat} {t : Ent} (h : T[p]? = some t) : (livesOf T)[p]? = some (.bool t.live) := by rw [livesOf, List.getElem?_map, List.getElem?_map, h]; rfl
theorem has_at {p : Nat} {t : Ent} (h : T[p]? = some t) : (hasOf T)[p]? = some (.int .i64 t.val) := by rw [hasOf, List.getElem?_map, h]; rfl
/-- The rows' cells after the slab was turned. -/
theorem NRel.cells {p gt gl' gh ct cl ch : Nat} {t : Ent} {w1 : World} (h : NRel w b g base s m (.slice (some ⟨gt, 0, none⟩) T.length ct) (.slice (some ⟨gl', 0, none⟩) T.length cl) (.slice (some ⟨gh, 0, none⟩) T.length ch) l T wr) (ht : T[p]? = some t)
    (hM : Mod (· = g) wr w1) : w1.cell? ⟨gt, p * 2, none⟩ = some (.int .i64 (t.slot : Int)) ∧ w1.cell? ⟨gt, p * 2 + 1, none⟩ = some (.int .u32 t.gen) ∧ w1.cell? ⟨gl', p, none⟩ = some (.bool t.live) ∧ w1.cell? ⟨gh, p, none⟩ = some (.int .i64 t.val) ∧
      w1.frozen? ⟨gl', p, none⟩ = false ∧ w1.frozen? ⟨gh, p, none⟩ = false := by
  have hp := (List.getElem?_eq_some_iff.1 ht).1
  have h1 := h.told.kept (grown_mod hM) (own_base h.told h.gl)
  have h2 := h.lives.kept (grown_mod hM) (own_base h.lives h.gl)
  have h3 := h.has.kept (grown_mod hM) (own_base h.has h.gl)
  refine ⟨(h1.cellAt (p * 2) (by omega)).trans (toldOf_at ht).1, (h1.cellAt (p * 2 + 1) (by omega)).trans (toldOf_at ht).2, (h2.cellAt p (by omega)).trans (lives_at ht), (h3.cellAt p (by omega)).trans (has_at ht), h2.frozenAt p, h3.frozenAt p⟩
end
end Go.Proofs.Ytmgiaedfonaefaa
