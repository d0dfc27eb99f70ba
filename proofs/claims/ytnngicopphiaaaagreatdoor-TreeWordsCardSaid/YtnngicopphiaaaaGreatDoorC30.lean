/- Part 30 of 51 of a proof: lemmas on the functions that it reaches. -/
import Derived.Test.YtnngicopphiaaaaGreatDoorC29
import Derived.Maps.AppendAt
namespace Go.Proofs.YtnngicopphiaaaaGreatDoor.T
set_option maxRecDepth 8000
open Go.ChangeShapes Go.WideShapes Go.ChangeAt Go.RowKit Go.Burg
open Go.Burg.Lk
def dOf (b : Nat) (w : World) : Nat := match w.cell? ⟨b, 3, none⟩ with
  | some (.int _ d) => d.toNat
  | _ => 0
structure SkI (u : Nat) (w : World) (slot gen : Int) (r : Int × Int) (d : Nat) (W : List (Int × Int)) (w1 : World) : Prop where
  an : w1.heap[u]? = some (.cells #[.int .i64 slot, .int .u32 gen] 30 (0, 0))
  sp : ∃ v at_, w1.heap[u + 1]? = some (.cells #[.int .i64 0, v, .int .i64 at_, .int .i64 (d : Nat)] 79 (0, 0)) ∧ w1.ownsRow (u + 1 + 1 + 1 + 1) 30 2 v W.length (refsL W)
  nd : ∃ a0 a1 a2 a3 a4 a5, w1.heap[u + 1 + 1]? = some (.cells #[a0, a1, a2, a3, a4, a5] 53 (0, 0))
  rf : w1.heap[u + 1 + 1 + 1]? = some (.cells #[.int .i64 r.1, .int .u32 r.2] 30 (0, 0))
  b : Below u w w1
structure SkL (u : Nat) (w : World) (x : Nd) (d : Nat) (W : List (Int × Int)) (w1 : World) : Prop where
  sp : ∃ v at_, w1.heap[u + 1]? = some (.cells #[.int .i64 0, v, .int .i64 at_, .int .i64 (d : Nat)] 79 (0, 0)) ∧ w1.ownsRow (u + 1 + 1 + 1 + 1) 30 2 v W.length (refsL W)
  nd : w1.heap[u + 1 + 1]? = some (.cells #[.int .i64 x.kind, .string x.code, .string x.value, .string x.path, .slice x.bytes.a x.bytes.n x.bytes.c, .slice x.kids.a x.kids.n x.kids.c] 53 (0, 0))
  b : Below u w w1
theorem SkI.keep {u : Nat} {w : World} {slot gen : Int} {r : Int × Int} {d : Nat} {W : List (Int × Int)} {w1 w2 : World} (h : SkI u w slot gen r d W w1) (hb : Below w1.heap.size w1 w2) : SkI u w slot gen r d W w2 := by
  obtain ⟨h1, ⟨v, at_, h2, h3⟩, ⟨a0, a1, a2, a3, a4, a5, h4⟩, h5, h6⟩ := h
  have e : ∀ {k : Nat} {o : Obj}, w1.heap[k]? = some o → w2.heap[k]? = some o := fun h => (hb.block _ (lt_of_block h)).trans h
  exact ⟨e h1, ⟨v, at_, e h2, O.own_mod h3 (O.mod_of_below (S := fun _ => False) hb) (fun _ _ h => h)⟩, ⟨_, _, _, _, _, _, e h4⟩, e h5, h6.trans (hb.mono (by have := lt_of_block h1; omega))⟩
theorem jump_intro {F : (Nat → Value) → Act} {a : Act} {p : Prop} (f : Nat → Value) (h : a = F f) (hp : p) : ∃ f, a = F f ∧ p := ⟨f, h, hp⟩
def frD (t u : Nat) (slot gen : Int) (c : ByteArray) (f : Nat → Value) : Act := ({ tmps := #[.pointer (some ⟨t, 0, none⟩), .agg #[.int .i64 slot, .int .u32 gen], .string c, f 3, .pointer (some ⟨u, 0, none⟩), f 5, .pointer (some ⟨(u + 1), 0, none⟩), .int .i64 0, .pointer (some ⟨(u + 1 + 1), 0, none⟩), f 9, f 10, .pointer (some ⟨(u + 1 + 1 + 1), 0, none⟩), f 12, f 13, f 14, f 15, f 16, f 17, f 18, f 19, f 20, f 21, f 22, f 23, f 24, f 25, f 26, f 27, f 28, f 29, f 30, f 31, f 32, f 33, f 34, f 35, f 36, f 37, f 38, f 39, f 40, f 41, f 42, f 43, f 44, f 45, f 46, f 47, f 48, f 49, f 50, f 51, f 52, f 53, f 54, f 55, f 56, f 57, f 58, f 59, f 60, f 61, f 62, f 63, f 64, f 65, f 66, f 67, f 68, f 69, f 70, f 71, f 72, f 73, f 74, f 75, f 76, f 77, f 78, f 79, f 80, f 81, f 82, f 83, f 84, f 85, f 86, f 87, f 88, f 89, f 90, f 91, f 92, f 93, f 94, f 95, f 96, f 97, f 98, f 99, f 100, f 101, f 102, f 103], defers := [] } : Act)
def frL (t u : Nat) (slot gen : Int) (c : ByteArray) (rest : ByteArray) (f : Nat → Value) : Act := ({ tmps := #[.pointer (some ⟨t, 0, none⟩), .agg #[.int .i64 slot, .int .u32 gen], .string c, f 3, .pointer (some ⟨u, 0, none⟩), f 5, .pointer (some ⟨(u + 1), 0, none⟩), .int .i64 0, .pointer (some ⟨(u + 1 + 1), 0, none⟩), .string rest, f 10, .pointer (some ⟨(u + 1 + 1 + 1), 0, none⟩), f 12, f 13, f 14, f 15, f 16, f 17, f 18, f 19, f 20, f 21, f 22, f 23, f 24, f 25, f 26, f 27, f 28, f 29, f 30, f 31, f 32, f 33, f 34, f 35, f 36, f 37, f 38, f 39, f 40, f 41, f 42, f 43, f 44, f 45, f 46, f 47, f 48, f 49, f 50, f 51, f 52, f 53, f 54, f 55, f 56, f 57, f 58, f 59, f 60, f 61, f 62, f 63, f 64, f 65, f 66, f 67, f 68, f 69, f 70, f 71, f 72, f 73, f 74, f 75, f 76, f 77, f 78, f 79, f 80, f 81, f 82, f 83, f 84, f 85, f 86, f 87, f 88, f 89, f 90, f 91, f 92, f 93, f 94, f 95, f 96, f 97, f 98, f 99, f 100, f 101, f 102, f 103], defers := [] } : Act)
structure SkN (u : Nat) (w : World) (slot gen : Int) (x : Nd) (v : Value) (a : Int) (r : Int × Int) (d : Nat) (W : List (Int × Int)) (w1 : World) : Prop where
  an : w1.heap[u]? = some (.cells #[.int .i64 slot, .int .u32 gen] 30 (0, 0))
  sp : w1.heap[u + 1]? = some (.cells #[.int .i64 0, v, .int .i64 a, .int .i64 (d : Nat)] 79 (0, 0))
  ow : w1.ownsRow (u + 1 + 1 + 1 + 1) 30 2 v W.length (refsL W)
  nd : w1.heap[u + 1 + 1]? = some (.cells #[.int .i64 x.kind, .string x.code, .string x.value, .string x.path, .slice x.bytes.a x.bytes.n x.bytes.c, .slice x.kids.a x.kids.n x.kids.c] 53 (0, 0))
  rf : w1.heap[u + 1 + 1 + 1]? = some (.cells #[.int .i64 r.1, .int .u32 r.2] 30 (0, 0))
  b : Below u w w1
theorem SkI.push {u : Nat} {w : World} {slot gen : Int} {r : Int × Int} {d : Nat} {W : List (Int × Int)} {w1 w2 : World} {v v' : Value} {a : Int} {o' : Obj} (h : SkI u w slot gen r d W w1) (h1 : w1.heap[u + 1]? = some (.cells #[.int .i64 0, v, .int .i64 a, .int .i64 (d : Nat)] 79 (0, 0))) (hv : w1.ownsRow (u + 1 + 1 + 1 + 1) 30 2 v W.length (refsL W))
    (g1 : w2.ownsRow (u + 1 + 1 + 1 + 1) 30 2 v' (W.length + 1) (refsL W ++ [.int .i64 r.1, .int .u32 r.2])) (g2 : (w1.alloc o').grownBy w2 v.ownBlock) :
    w2.heap[u + 1]? = some (.cells #[.int .i64 0, v, .int .i64 a, .int .i64 (d : Nat)] 79 (0, 0)) ∧ (w2.setCell ⟨u + 1, 1, none⟩ v').heap[u + 1]? = some (.cells #[.int .i64 0, v', .int .i64 a, .int .i64 (d : Nat)] 79 (0, 0)) ∧ (w2.setCell ⟨u + 1, 1, none⟩ v').ownsRow (u + 1 + 1 + 1 + 1) 30 2 v' (W ++ [r]).length (refsL (W ++ [r])) ∧ SkI u w slot gen r d (W ++ [r]) (w2.setCell ⟨u + 1, 1, none⟩ v') := by
  have hA : Mod (fun _ => False) w1 (w1.alloc o') := ⟨rfl, rfl, rfl, by simp, fun k hk _ => Below.heap_alloc _ _ _ hk⟩
  have hG : Mod (fun k => v.ownBlock = some k) (w1.alloc o') w2 := ⟨g2.os, g2.tape, g2.output, g2.size, fun k hk hn => g2.block k hk (fun e => hn e.symm)⟩
  have hW2 : Mod (fun k => v.ownBlock = some k) w1 w2 := (hA.mono fun _ _ h => h.elim).trans hG (fun _ _ h => h)
  have hM : Mod (fun k => v.ownBlock = some k ∨ k = u + 1) w1 (w2.setCell ⟨u + 1, 1, none⟩ v') := Mod.setCell (S := fun k => v.ownBlock = some k ∨ k = u + 1) (p := ⟨u + 1, 1, none⟩) (hW2.mono fun _ _ h => .inl h) (.inl (.inr rfl)) _
  have hge : ∀ k, v.ownBlock = some k → u + 1 + 1 + 1 + 1 ≤ k := fun k hk => (O.own_ge hv hk).1
  have ho2 : w2.heap[u + 1]? = some (.cells #[.int .i64 0, v, .int .i64 a, .int .i64 (d : Nat)] 79 (0, 0)) := (hW2.block _ (lt_of_block h1) (fun e => by have := hge _ e; omega)).trans h1
  have ho3 : (w2.setCell ⟨u + 1, 1, none⟩ v').heap[u + 1]? = some (.cells #[.int .i64 0, v', .int .i64 a, .int .i64 (d : Nat)] 79 (0, 0)) := by
    have := heap_set (i := 1) (v := v') ho2
    simpa using this
  have hge2 : ∀ k, v'.ownBlock = some k → u + 1 + 1 + 1 + 1 ≤ k := fun k hk => (O.own_ge g1 hk).1
  have hMs : Mod (· = u + 1) w2 (w2.setCell ⟨u + 1, 1, none⟩ v') := Mod.setCell (S := (· = u + 1)) (p := ⟨u + 1, 1, none⟩) (Mod.refl _ _) (.inl rfl) _
  have how : (w2.setCell ⟨u + 1, 1, none⟩ v').ownsRow (u + 1 + 1 + 1 + 1) 30 2 v' (W ++ [r]).length (refsL (W ++ [r])) := by
    rw [refsL_app, List.length_append]
    exact O.own_mod g1 hMs (fun k hk e => by have := hge2 k hk; have : k = u + 1 := e; omega)
  have e : ∀ {k : Nat} {o : Obj}, k < u + 1 + 1 + 1 + 1 → k ≠ u + 1 → w1.heap[k]? = some o → (w2.setCell ⟨u + 1, 1, none⟩ v').heap[k]? = some o := fun hk hne h => (hM.block _ (lt_of_block h) (fun e => e.elim (fun e => by have := hge _ e; omega) hne)).trans h
  obtain ⟨a0, a1, a2, a3, a4, a5, hnd⟩ := h.nd
  refine ⟨ho2, ho3, how, ⟨e (by omega) (by omega) h.an, ⟨_, _, ho3, how⟩, ⟨_, _, _, _, _, _, e (by omega) (by omega) hnd⟩, e (by omega) (by omega) h.rf, ?_⟩⟩
  exact h.b.trans ⟨hM.os, hM.tape, hM.output, hM.size, fun k hk => hM.block k (by have := lt_of_block h.an; omega) (fun e => e.elim (fun e => by have := hge _ e; omega) (fun e => by omega))⟩
theorem below_mods {u k : Nat} {w W w1 : World} (h : Below u w W) (hM : Mod (· = k) W w1) (hk : u ≤ k) (hz : u ≤ W.heap.size) : Below u w w1 :=
  h.trans ⟨hM.os, hM.tape, hM.output, hM.size, fun j hj => hM.block j (by omega) (by show ¬ j = k; omega)⟩
structure SkJ (T : TypeId) (b : Nat) (W : World) (cs : Array Value) (w1 : World) : Prop where
  m : Mod (· = b) W w1
  c : w1.heap[b]? = some (.cells cs T (0, 0))
theorem SkJ.below {T : TypeId} {b : Nat} {W w1 w2 : World} {cs : Array Value} (h : SkJ T b W cs w1) (hb : Below w1.heap.size w1 w2) : SkJ T b W cs w2 := ⟨h.m.trans (Mod.ofBelow hb) (fun _ _ h => h), (hb.block _ (lt_of_block h.c)).trans h.c⟩
theorem SeekW.live {P : List (Cel PNd)} {c : ByteArray} {r : Int × Int} {d : Nat} {W : List (Int × Int)} {s : SpotP} (h : SeekW P c r d W s) : ∃ i q, LiveP P r.1 r.2 i q := by
  cases h <;> exact ⟨_, _, by assumption⟩
theorem SeekW.leafI {P : List (Cel PNd)} {c : ByteArray} {r : Int × Int} {d : Nat} {W : List (Int × Int)} {s : SpotP} {i : Nat} {q : PNd} {c' v : ByteArray} (h : SeekW P c r d W s) (hq : LiveP P r.1 r.2 i q) (hn : q.n = .leaf c' v) :
    d ≤ c'.size ∧ s = ⟨if c' = c then 1 else 4, W ++ [r], if c' = c then 0 else com (rst c d) (rst c' d), d⟩ := by
  cases h with
  | leaf h2 hn2 h3 h4 =>
    have := (hq.uniq h2).2
    subst this
    rw [hn] at hn2
    cases hn2
    exact ⟨h4, rfl⟩
  | split h2 hn2 h3 h4 =>
    have := (hq.uniq h2).2
    subst this
    rw [hn] at hn2
    cases hn2
  | bare h2 hn2 h3 h4 h5 h6 =>
    have := (hq.uniq h2).2
    subst this
    rw [hn] at hn2
    cases hn2
  | down h2 hn2 h3 h4 h5 h6 h7 =>
    have := (hq.uniq h2).2
    subst this
    rw [hn] at hn2
    cases hn2
theorem SeekW.innerI {P : List (Cel PNd)} {c : ByteArray} {r : Int × Int} {d : Nat} {W : List (Int × Int)} {s : SpotP} {i : Nat} {q : PNd} {k : Nat} {pt : ByteArray} {L : List Kd} (h : SeekW P c r d W s) (hq : LiveP P r.1 r.2 i q) (hn : q.n = .inner k pt L) :
    (com (rst c d) pt < pt.size ∧ s = ⟨3, W ++ [r], com (rst c d) pt, d⟩) ∨ (com (rst c d) pt = pt.size ∧ ∃ x, (byt (rst c d))[pt.size]? = some x ∧ ((findK L x.toNat = none ∧ s = ⟨2, W ++ [r], x.toNat, d⟩) ∨ ∃ kk, findK L x.toNat = some kk ∧ SeekW P c (kk.s, kk.g) (d + pt.size + 1) (W ++ [r]) s)) := by
  cases h with
  | leaf h2 hn2 h3 h4 =>
    have := (hq.uniq h2).2
    subst this
    rw [hn] at hn2
    cases hn2
  | split h2 hn2 h3 h4 =>
    have := (hq.uniq h2).2
    subst this
    rw [hn] at hn2
    cases hn2
    exact .inl ⟨h4, rfl⟩
  | bare h2 hn2 h3 h4 h5 h6 =>
    have := (hq.uniq h2).2
    subst this
    rw [hn] at hn2
    cases hn2
    exact .inr ⟨h4, _, h5, .inl ⟨h6, rfl⟩⟩
  | down h2 hn2 h3 h4 h5 h6 h7 =>
    have := (hq.uniq h2).2
    subst this
    rw [hn] at hn2
    cases hn2
    exact .inr ⟨h4, _, h5, .inr ⟨_, h6, h7⟩⟩
theorem SkN.keep {u : Nat} {w : World} {slot gen : Int} {x : Nd} {v : Value} {a : Int} {r : Int × Int} {d : Nat} {W : List (Int × Int)} {w1 w2 : World} (h : SkN u w slot gen x v a r d W w1) (hb : Below w1.heap.size w1 w2) : SkN u w slot gen x v a r d W w2 := by
  have e : ∀ {k : Nat} {o : Obj}, w1.heap[k]? = some o → w2.heap[k]? = some o := fun h => (hb.block _ (lt_of_block h)).trans h
  exact ⟨e h.an, e h.sp, O.own_mod h.ow (O.mod_of_below (S := fun _ => False) hb) (fun _ _ h => h), e h.nd, e h.rf, h.b.trans (hb.mono (by have := lt_of_block h.an; omega))⟩
theorem SkN.turn {u : Nat} {w : World} {slot gen : Int} {x : Nd} {v : Value} {a : Int} {r : Int × Int} {d : Nat} {W : List (Int × Int)} {w1 w2 : World} {a' : Int} {d' : Nat} (h : SkN u w slot gen x v a r d W w1) (hM : Mod (· = u + 1) w1 w2) (hc : w2.heap[u + 1]? = some (.cells #[.int .i64 0, v, .int .i64 a', .int .i64 (d' : Nat)] 79 (0, 0))) : SkN u w slot gen x v a' r d' W w2 := by
  have e : ∀ {k : Nat} {o : Obj}, k ≠ u + 1 → w1.heap[k]? = some o → w2.heap[k]? = some o := fun hk h => (hM.block _ (lt_of_block h) hk).trans h
  exact ⟨e (by omega) h.an, hc, O.own_mod h.ow hM (fun k hk e => by have := (O.own_ge h.ow hk).1; have : k = u + 1 := e; omega), e (by omega) h.nd, e (by omega) h.rf, below_mods h.b hM (by omega) (by have := lt_of_block h.an; omega)⟩
theorem SkN.at_ {u : Nat} {w : World} {slot gen : Int} {x : Nd} {v : Value} {a : Int} {r : Int × Int} {d : Nat} {W : List (Int × Int)} {w1 : World} (h : SkN u w slot gen x v a r d W w1) (a' : Int) : SkN u w slot gen x v a' r d W (w1.setCell ⟨u + 1, 2, none⟩ (.int .i64 a')) :=
  h.turn (Mod.setCell (S := (· = u + 1)) (p := ⟨u + 1, 2, none⟩) (Mod.refl _ _) (.inl rfl) _) (by simpa using heap_set (i := 2) (v := .int .i64 a') h.sp)
theorem SkN.dep {u : Nat} {w : World} {slot gen : Int} {x : Nd} {v : Value} {a : Int} {r : Int × Int} {d : Nat} {W : List (Int × Int)} {w1 : World} (h : SkN u w slot gen x v a r d W w1) (d' : Nat) : SkN u w slot gen x v a r d' W (w1.setCell ⟨u + 1, 3, none⟩ (.int .i64 d')) :=
  h.turn (Mod.setCell (S := (· = u + 1)) (p := ⟨u + 1, 3, none⟩) (Mod.refl _ _) (.inl rfl) _) (by simpa using heap_set (i := 3) (v := .int .i64 d') h.sp)
theorem SkN.ref {u : Nat} {w : World} {slot gen : Int} {x : Nd} {v : Value} {a : Int} {r : Int × Int} {d : Nat} {W : List (Int × Int)} {w1 w2 : World} {r' : Int × Int} (h : SkN u w slot gen x v a r d W w1) (hM : Mod (· = u + 1 + 1 + 1) w1 w2) (hc : w2.heap[u + 1 + 1 + 1]? = some (.cells #[.int .i64 r'.1, .int .u32 r'.2] 30 (0, 0))) : SkN u w slot gen x v a r' d W w2 := by
  have e : ∀ {k : Nat} {o : Obj}, k ≠ u + 1 + 1 + 1 → w1.heap[k]? = some o → w2.heap[k]? = some o := fun hk h => (hM.block _ (lt_of_block h) hk).trans h
  exact ⟨e (by omega) h.an, e (by omega) h.sp, O.own_mod h.ow hM (fun k hk e => by have := (O.own_ge h.ow hk).1; have : k = u + 1 + 1 + 1 := e; omega), e (by omega) h.nd, hc, below_mods h.b hM (by omega) (by have := lt_of_block h.an; omega)⟩
theorem SkN.skI {u : Nat} {w : World} {slot gen : Int} {x : Nd} {v : Value} {a : Int} {r : Int × Int} {d : Nat} {W : List (Int × Int)} {w1 : World} (h : SkN u w slot gen x v a r d W w1) : SkI u w slot gen r d W w1 := ⟨h.an, ⟨_, _, h.sp, h.ow⟩, ⟨_, _, _, _, _, _, h.nd⟩, h.rf, h.b⟩
theorem SkN.dOf {u : Nat} {w : World} {slot gen : Int} {x : Nd} {v : Value} {a : Int} {r : Int × Int} {d : Nat} {W : List (Int × Int)} {w1 : World} (h : SkN u w slot gen x v a r d W w1) : dOf (u + 1) w1 = d := by
  have := cell_of h.sp 3
  simp at this
  simp [T.dOf, this]
theorem set4_at {T : TypeId} {w : World} {c : Nat} {a0 a1 a2 a3 : Value} (b0 b1 b2 b3 : Value) (h : w.heap[c]? = some (.cells #[a0, a1, a2, a3] T (0, 0))) :
    ((((w.setCell ⟨c, 0, none⟩ b0).setCell ⟨c, 1, none⟩ b1).setCell ⟨c, 2, none⟩ b2).setCell ⟨c, 3, none⟩ b3).heap[c]? = some (.cells #[b0, b1, b2, b3] T (0, 0)) ∧ Mod (· = c) w ((((w.setCell ⟨c, 0, none⟩ b0).setCell ⟨c, 1, none⟩ b1).setCell ⟨c, 2, none⟩ b2).setCell ⟨c, 3, none⟩ b3) := by
  have stp : ∀ {A : World} (j : Nat) (v : Value), Mod (· = c) w A → Mod (· = c) w (A.setCell ⟨c, j, none⟩ v) := fun j v h => Mod.setCell (S := (· = c)) (p := ⟨c, j, none⟩) h (.inl rfl) v
  refine ⟨?_, stp _ _ (stp _ _ (stp _ _ (stp _ _ (Mod.refl _ _))))⟩
  have := heap_set (i := 3) (v := b3) (heap_set (i := 2) (v := b2) (heap_set (i := 1) (v := b1) (heap_set (i := 0) (v := b0) h)))
  simpa using this
theorem own_le {w : World} {B B' : Nat} {e : TypeId} {s n : Nat} {v : Value} {xs : List Value} (h : w.ownsRow B e s v n xs) (hb : B' ≤ B) : w.ownsRow B' e s v n xs := by
  obtain ⟨h1, h2 | ⟨g, cap, cur, a, b, c⟩⟩ := h
  · exact ⟨h1, .inl h2⟩
  · exact ⟨h1, .inr ⟨g, cap, cur, a, Nat.le_trans hb b, c⟩⟩
theorem SkN.fin {u : Nat} {w : World} {slot gen : Int} {x : Nd} {v : Value} {a : Int} {r : Int × Int} {d : Nat} {W : List (Int × Int)} {w1 w2 : World} (h : SkN u w slot gen x v a r d W w1) (hM : Mod (· = u + 1) w1 w2) : w2.ownsRow u 30 2 v W.length (refsL W) ∧ Below u w w2 :=
  ⟨own_le (O.own_mod h.ow hM (fun k hk e => by have := (O.own_ge h.ow hk).1; have : k = u + 1 := e; omega)) (by omega), below_mods h.b hM (by omega) (by have := lt_of_block h.an; omega)⟩
def bjL : List Nat := [0, 1, 2, 3, 4, 5, 7]
structure BJ (u : Nat) (W0 : World) (v : Value) (a d x : Int) (tab : Nat → Value) (D : Nat → Bool) (xs : Nat → Value) (w : World) : Prop where
  m : Mod (· = u + 1) W0 w
  c : w.heap[u + 1]? = some (.cells #[.int .i64 (cond (D 6) 2 0), v, .int .i64 (cond (D 8) x a), .int .i64 d] 79 (0, 0))
  v : ∀ j, D j = true → j ∈ bjL → xs j = tab j
  o : D 3 = true ∨ D 4 = true ∨ D 8 = true → D 2 = true
section
variable {u : Nat} {W0 w : World} {v : Value} {a d x : Int} {tab : Nat → Value} {D : Nat → Bool} {xs : Nat → Value}
theorem BJ.start (hc : W0.heap[u + 1]? = some (.cells #[.int .i64 0, v, .int .i64 a, .int .i64 d] 79 (0, 0))) : BJ u W0 v a d x tab (fun _ => false) (fun _ => undef) W0.drew :=
  ⟨(Mod.refl _ _).drew, hc, fun j h => (by cases h), fun h => (by simp at h)⟩
theorem BJ.vs (h : BJ u W0 v a d x tab D xs w) {i : Nat} {q : Value} (hu : i ∈ bjL → q = tab i) : ∀ j, (D j || j == i) = true → j ∈ bjL → (if j = i then q else xs j) = tab j := fun j hj hr => by
  by_cases e : j = i
  · subst e; simp only [if_pos]; exact hu hr
  · simp only [if_neg e]; exact h.v j (by simpa [e] using hj) hr
theorem BJ.calm (h : BJ u W0 v a d x tab D xs w) {i : Nat} {q : Value} (h6 : i ≠ 6) (h8 : i ≠ 8) (hu : i ∈ bjL → q = tab i) (ho : i = 3 ∨ i = 4 → D 2 = true) : BJ u W0 v a d x tab (fun j => D j || j == i) (fun j => if j = i then q else xs j) w := by
  have n6 : ¬ 6 = i := fun e => h6 e.symm
  have n8 : ¬ 8 = i := fun e => h8 e.symm
  have e6 : (D 6 || 6 == i) = D 6 := by simp [n6]
  have e8 : (D 8 || 8 == i) = D 8 := by simp [n8]
  refine ⟨h.m, by simp only [e6, e8]; exact h.c, h.vs hu, fun e => ?_⟩
  simp only [e8, Bool.or_eq_true, beq_iff_eq] at e ⊢
  rcases e with (e | e) | (e | e) | e
  · exact .inl (h.o (.inl e))
  · exact .inl (ho (.inl e.symm))
  · exact .inl (h.o (.inr (.inl e)))
  · exact .inl (ho (.inr e.symm))
  · exact .inl (h.o (.inr (.inr e)))
theorem BJ.st6 (h : BJ u W0 v a d x tab D xs w) {q : Value} : BJ u W0 v a d x tab (fun j => D j || j == 6) (fun j => if j = 6 then q else xs j) (w.setCell ⟨u + 1, 0, none⟩ (.int .i64 2)) := by
  refine ⟨h.m.setCell (p := ⟨u + 1, 0, none⟩) (.inl rfl) _, ?_, h.vs (fun e => absurd e (by decide)), fun e => ?_⟩
  · have := heap_set (i := 0) (v := .int .i64 2) h.c
    simpa using this
  · simpa using h.o (by simpa using e)
theorem BJ.st8 (h : BJ u W0 v a d x tab D xs w) (h2 : D 2 = true) {q : Value} : BJ u W0 v a d x tab (fun j => D j || j == 8) (fun j => if j = 8 then q else xs j) (w.setCell ⟨u + 1, 2, none⟩ (.int .i64 x)) := by
  refine ⟨h.m.setCell (p := ⟨u + 1, 2, none⟩) (.inl rfl) _, ?_, h.vs (fun e => absurd e (by decide)), fun _ => by simp [h2]⟩
  have := heap_set (i := 2) (v := .int .i64 x) h.c
  simpa using this
end
theorem ba_inj {a b : ByteArray} (h : a.toList = b.toList) : a = b := by
  rw [ByteArray.toList_eq, ByteArray.toList_eq] at h
  cases a
  cases b
  congr
  exact Array.toList_inj.1 h
theorem wrap_byte (n : Int) (h0 : 0 ≤ n) (h1 : n < 256) : IntKind.i64.wrap n = n := by rw [IntKind.wrap_i64]; omega
theorem wrap_u8 (x : UInt8) : IntKind.i64.wrap (x.toNat : Int) = (x.toNat : Int) := wrap_byte _ (by omega) (by have := x.toNat_lt; omega)
theorem jump_self {F : (Nat → Value) → Act} {a : Act} {p : Prop} (h : a = F (fun i => a.tmps.getD i undef)) (hp : p) : ∃ f, a = F f ∧ p := ⟨_, h, hp⟩
theorem SeekW.depth {P : List (Cel PNd)} {c : ByteArray} {r : Int × Int} {d : Nat} {W : List (Int × Int)} {s : SpotP} (h : SeekW P c r d W s) : d ≤ c.size := by
  cases h <;> assumption
end Go.Proofs.YtnngicopphiaaaaGreatDoor.T
