/- 'n, ok := does(..)': while its order is open. -/
import Derived.Test.YtkdimkaladbnpaaLooks
import Derived.Test.YtkdimkaladbnpaaPurseOnce
import Derived.Test.YtkdimkaladbnpaaVal
namespace Go.Proofs.Ytkdimkaladbnpaa
open Go.ChangeShapes Go.WideShapes Go.ChangeAt Go.RowKit Go.Burg
open Go.Burg.Purse

/-- The program's purse and the reference's, in a box of the law's own. -/
structure PS (w : World) (b m mb : Nat) (s : St) (cs : Array Value) (v : Value) (T : List Tk) (w1 : World) : Prop where
  pu : PurseAt w1 b m s
  mbox : w1.heap[mb]? = some (.cells cs 39 (0, 0))
  tk : TkAt w1 v T
  mod : Mod (fun i => w.heap.size ≤ i) w w1
  lb : w.heap.size ≤ b
  lm : w.heap.size ≤ m
  nb : mb ≠ b
  nm : mb ≠ m
  ln : w.heap.size ≤ mb
section
variable {w w1 w2 : World} {b m mb : Nat} {s s' : St} {cs : Array Value} {v v' : Value} {T T' : List Tk}
theorem PS.drew (h : PS w b m mb s cs v T w1) : PS w b m mb s cs v T w1.drew := ⟨⟨h.pu.1, h.pu.2⟩, h.mbox, h.tk, h.mod.drew, h.lb, h.lm, h.nb, h.nm, h.ln⟩
theorem PS.keep (h : PS w b m mb s cs v T w1) (hb : Below w1.heap.size w1 w2) : PS w b m mb s cs v T w2 := ⟨h.pu.keep hb, blk_below h.mbox hb (lt_of_block h.mbox), h.tk.keep hb, mod_bel h.mod hb, h.lb, h.lm, h.nb, h.nm, h.ln⟩
theorem PS.alloc (h : PS w b m mb s cs v T w1) (o : Obj) : PS w b m mb s cs v T (w1.alloc o) := ⟨h.pu.alloc o, blk_alloc h.mbox, h.tk.alloc o, h.mod.alloc o, h.lb, h.lm, h.nb, h.nm, h.ln⟩
theorem PS.set (h : PS w b m mb s cs v T w1) (i : Nat) (u : Value) : PS w b m mb s (cs.setIfInBounds i u) v T (w1.setCell ⟨mb, i, none⟩ u) :=
  ⟨h.pu.setCell (fun e => h.nb e.symm) (fun e => h.nm e.symm) _, heap_set h.mbox, own_set h.tk (own_ty h.tk h.mbox (by decide)) _, h.mod.setCell (.inl h.ln) _, h.lb, h.lm, h.nb, h.nm, h.ln⟩
theorem PS.turn (h : PS w b m mb s cs v T w1) (hp : PurseAt w2 b m s') (ht : TkAt w2 v' T') (hM : Mod (Own b m) w1 w2) : PS w b m mb s' cs v' T' w2 := by
  have nb := h.nb
  have nm := h.nm
  exact ⟨hp, (hM.block mb (lt_of_block h.mbox) (by rintro (h | h) <;> omega)).trans h.mbox, ht, mod_new h.mod hM h.lb h.lm, h.lb, h.lm, h.nb, h.nm, h.ln⟩
theorem PS.swap (h : PS w b m mb s cs v T w1) (ht : TkAt w1 v' T') : PS w b m mb s cs v' T' w1 := ⟨h.pu, h.mbox, ht, h.mod, h.lb, h.lm, h.nb, h.nm, h.ln⟩
/-- A cell that came in reads as before. -/
theorem PS.old (h : PS w b m mb s cs v T w1) {bl : Nat} (hb : bl < w.heap.size) (j : Nat) : w1.cell? ⟨bl, j, none⟩ = w.cell? ⟨bl, j, none⟩ := World.cell?_of_block (w := w) (h.mod.block bl hb (by omega))
end

/-- What is said of the values of 'n, ok := does(p, m, l[i])' while its order is open: of those that stand ahead of the call v0 says all; c is the call's number. -/
def TV (c : Nat) (v0 : Nat → Value) (r' : RSt) (j : Nat) (v : Value) (w : World) : Prop :=
  (j < c → v = v0 j) ∧ (j = c ∨ j = c + 1 → ∃ v', v = .tuple #[.agg #[.int .u64 r'.xk, .int .u64 r'.xb, .int .u64 r'.hk, .int .u64 r'.hb, v'], .bool true] ∧ TkAt w v' r'.T) ∧ (j = c + 2 → ∃ v', v = .agg #[.int .u64 r'.xk, .int .u64 r'.xb, .int .u64 r'.hk, .int .u64 r'.hb, v'] ∧ TkAt w v' r'.T) ∧ (j = c + 3 → v = .bool true)

structure TJ (w : World) (b m mb : Nat) (s s' : St) (cs : Array Value) (v : Value) (T : List Tk) (c : Nat) (v0 : Nat → Value) (r' : RSt) (D : Nat → Bool) (xs : Nat → Value) (w1 : World) : Prop where
  ps : PS w b m mb (cond (D c) s' s) cs v T w1
  val : ∀ j, D j = true → TV c v0 r' j (xs j) w1
  ord : D (c + 5) = true → D (c + 2) = true ∧ D (c + 4) = true
  box : D (c + 4) = true → ∃ nb, xs (c + 4) = .pointer (some ⟨nb, 0, none⟩) ∧ nb ≠ b ∧ nb ≠ m ∧ nb ≠ mb ∧ w.heap.size ≤ nb ∧ w1.heap[nb]? = some (.cells (cond (D (c + 5)) (xs (c + 2)).cells #[.int .u64 0, .int .u64 0, .int .u64 0, .int .u64 0, .slice none 0 0]) 39 (0, 0))

section
variable {w : World} {b m mb : Nat} {s s' : St} {cs : Array Value} {v : Value} {T : List Tk} {c : Nat} {v0 : Nat → Value} {r' : RSt} {D : Nat → Bool} {xs : Nat → Value} {w1 w2 : World}
theorem TV.mono {j : Nat} {x : Value} (h : TV c v0 r' j x w1) (hT : ∀ v T, TkAt w1 v T → TkAt w2 v T) : TV c v0 r' j x w2 :=
  ⟨h.1, fun e => by obtain ⟨v', h1, h2⟩ := h.2.1 e; exact ⟨v', h1, hT _ _ h2⟩, fun e => by obtain ⟨v', h1, h2⟩ := h.2.2.1 e; exact ⟨v', h1, hT _ _ h2⟩, h.2.2.2⟩

theorem TV.low {j : Nat} {x : Value} (h : j < c) (e : x = v0 j) : TV c v0 r' j x w1 := ⟨fun _ => e, fun e => by omega, fun e => by omega, fun e => by omega⟩
theorem TV.mid {j : Nat} {v' : Value} (h : j = c ∨ j = c + 1) (ht : TkAt w1 v' r'.T) : TV c v0 r' j (.tuple #[.agg #[.int .u64 r'.xk, .int .u64 r'.xb, .int .u64 r'.hk, .int .u64 r'.hb, v'], .bool true]) w1 := ⟨fun e => by omega, fun _ => ⟨v', rfl, ht⟩, fun e => by omega, fun e => by omega⟩
theorem TV.fst {v' : Value} (ht : TkAt w1 v' r'.T) : TV c v0 r' (c + 2) (.agg #[.int .u64 r'.xk, .int .u64 r'.xb, .int .u64 r'.hk, .int .u64 r'.hb, v']) w1 := ⟨fun e => by omega, fun e => by omega, fun _ => ⟨v', rfl, ht⟩, fun e => by omega⟩
theorem TV.snd : TV c v0 r' (c + 3) (.bool true) w1 := ⟨fun e => by omega, fun e => by omega, fun e => by omega, fun _ => rfl⟩

/-- An operation other than the alloc and the store. -/
theorem TJ.put (h : TJ w b m mb s s' cs v T c v0 r' D xs w1) {i : Nat} (hD : D i = false) (h4 : i ≠ c + 4) (h5 : i ≠ c + 5) {u : Value} (hT : ∀ v T, TkAt w1 v T → TkAt w2 v T)
    (hN : ∀ nb o, nb ≠ b → nb ≠ m → w1.heap[nb]? = some o → w2.heap[nb]? = some o) (hp : PS w b m mb (cond (D c || c == i) s' s) cs v T w2) (hv : TV c v0 r' i u w2) :
    TJ w b m mb s s' cs v T c v0 r' (fun j => D j || j == i) (fun j => if j = i then u else xs j) w2 := by
  refine ⟨hp, fun j hj => ?_, fun hj => ?_, fun hj => ?_⟩
  · by_cases e : j = i
    · subst e
      simpa using hv
    · have : D j = true := by simpa [e] using hj
      simp only [e, if_false]
      exact (h.val j this).mono hT
  · have : (c + 5 == i) = false := by simp; omega
    simp only [this, Bool.or_false] at hj
    obtain ⟨g1, g2⟩ := h.ord hj
    simp [g1, g2]
  · have e4 : (c + 4 == i) = false := by simp; omega
    have e5 : (c + 5 == i) = false := by simp; omega
    simp only [e4, Bool.or_false] at hj
    obtain ⟨nb, g1, g2, g3, g4, g5, g6⟩ := h.box hj
    refine ⟨nb, by rw [if_neg (fun e => h4 e.symm)]; exact g1, g2, g3, g4, g5, ?_⟩
    simp only [e5, Bool.or_false]
    cases hc : D (c + 5)
    · rw [hc] at g6
      exact hN _ _ g2 g3 g6
    · have h2 := (h.ord hc).1
      have hne : c + 2 ≠ i := fun e => by rw [e, hD] at h2; cases h2
      rw [hc] at g6
      rw [if_neg hne]
      exact hN _ _ g2 g3 g6

/-- One that turns nothing. -/
theorem TJ.calm (h : TJ w b m mb s s' cs v T c v0 r' D xs w1) {i : Nat} (hD : D i = false) (hc : i ≠ c) (h4 : i ≠ c + 4) (h5 : i ≠ c + 5) {u : Value} (hv : TV c v0 r' i u w1) :
    TJ w b m mb s s' cs v T c v0 r' (fun j => D j || j == i) (fun j => if j = i then u else xs j) w1 :=
  h.put hD h4 h5 (fun _ _ h => h) (fun _ _ _ _ h => h) (by have : (c == i) = false := by simp; exact fun e => hc e.symm
                                                           rw [this, Bool.or_false]; exact h.ps) hv

/-- The call. -/
theorem TJ.call (h : TJ w b m mb s s' cs v T c v0 r' D xs w1) (hD : D c = false) {v' : Value} (hp : PurseAt w2 b m s') (ht : TkAt w2 v' r'.T) (hM : Mod (Own b m) w1 w2) :
    TJ w b m mb s s' cs v T c v0 r' (fun j => D j || j == c) (fun j => if j = c then .tuple #[.agg #[.int .u64 r'.xk, .int .u64 r'.xb, .int .u64 r'.hk, .int .u64 r'.hb, v'], .bool true] else xs j) w2 := by
  have hps := h.ps
  rw [hD] at hps
  have hT : ∀ v T, TkAt w1 v T → TkAt w2 v T := fun v T h => tk_mod h hps.pu hM
  refine h.put hD (by omega) (by omega) hT (fun nb o h1 h2 h => (hM.block nb (lt_of_block h) (by rintro (h | h) <;> contradiction)).trans h) ?_ ⟨fun e => by omega, fun _ => ⟨v', rfl, ht⟩, fun e => by omega, fun e => by omega⟩
  simp only [beq_self_eq_true, Bool.or_true]
  exact PS.turn (s := s) hps hp (hT _ _ hps.tk) hM

/-- The alloc. -/
theorem TJ.alloc (h : TJ w b m mb s s' cs v T c v0 r' D xs w1) (hD : D (c + 4) = false) :
    TJ w b m mb s s' cs v T c v0 r' (fun j => D j || j == c + 4) (fun j => if j = c + 4 then .pointer (some ⟨w1.heap.size, 0, none⟩) else xs j) (w1.alloc (.cells #[.int .u64 0, .int .u64 0, .int .u64 0, .int .u64 0, .slice none 0 0] 39)) := by
  have hn5 : D (c + 5) = false := by
    cases hc : D (c + 5)
    · rfl
    · have := (h.ord hc).2
      rw [hD] at this
      cases this
  have e5 : (c + 5 == c + 4) = false := by simp
  have lb := h.ps.pu.lt.1
  have lm := h.ps.pu.lt.2
  have ln := lt_of_block h.ps.mbox
  have ls := h.ps.mod.size
  refine ⟨?_, fun j hj => ?_, fun hj => ?_, fun _ => ⟨w1.heap.size, by simp, by omega, by omega, by omega, by omega, ?_⟩⟩
  · have : (c == c + 4) = false := by simp
    rw [this, Bool.or_false]
    exact h.ps.alloc _
  · by_cases e : j = c + 4
    · subst e
      exact ⟨fun e => by omega, fun e => by omega, fun e => by omega, fun e => by omega⟩
    · have : D j = true := by simpa [e] using hj
      simp only [e, if_false]
      exact (h.val j this).mono fun v T h => h.alloc _
  · simp only [e5, Bool.or_false] at hj
    rw [hn5] at hj
    cases hj
  · simp only [e5, Bool.or_false, hn5]
    exact heap_new _ _

/-- The store. -/
theorem TJ.store (h : TJ w b m mb s s' cs v T c v0 r' D xs w1) (hD : D (c + 5) = false) (hD2 : D (c + 2) = true) (hD4 : D (c + 4) = true) {nb : Nat} {v' u : Value} (hx : xs (c + 4) = .pointer (some ⟨nb, 0, none⟩)) (hy : xs (c + 2) = .agg #[.int .u64 r'.xk, .int .u64 r'.xb, .int .u64 r'.hk, .int .u64 r'.hb, v']) :
    TJ w b m mb s s' cs v T c v0 r' (fun j => D j || j == c + 5) (fun j => if j = c + 5 then u else xs j)
      (((((w1.setCell ⟨nb, 0, none⟩ (.int .u64 r'.xk)).setCell ⟨nb, 1, none⟩ (.int .u64 r'.xb)).setCell ⟨nb, 2, none⟩ (.int .u64 r'.hk)).setCell ⟨nb, 3, none⟩ (.int .u64 r'.hb)).setCell ⟨nb, 4, none⟩ v') := by
  obtain ⟨nb', g1, g2, g3, g4, g5, g6⟩ := h.box hD4
  rw [hx] at g1
  cases g1
  rw [hD] at g6
  simp only [cond_false] at g6
  have k : ∀ (W : World) (i : Nat) (u : Value) (cs' : Array Value), (PS w b m mb (cond (D c) s' s) cs v T W ∧ (∀ v T, TkAt w1 v T → TkAt W v T) ∧ W.heap[nb]? = some (.cells cs' 39 (0, 0))) →
      (PS w b m mb (cond (D c) s' s) cs v T (W.setCell ⟨nb, i, none⟩ u) ∧ (∀ v T, TkAt w1 v T → TkAt (W.setCell ⟨nb, i, none⟩ u) v T) ∧ (W.setCell ⟨nb, i, none⟩ u).heap[nb]? = some (.cells (cs'.setIfInBounds i u) 39 (0, 0))) := by
    rintro W i u cs' ⟨p1, p2, p3⟩
    have hT : ∀ v T, TkAt W v T → TkAt (W.setCell ⟨nb, i, none⟩ u) v T := fun v T h => own_set h (own_ty h p3 (by decide)) _
    exact ⟨⟨p1.pu.setCell (fun e => g2 e.symm) (fun e => g3 e.symm) _, (Below.heap_setCell _ _ _ _ (fun e => g4 e.symm)).trans p1.mbox, hT _ _ p1.tk, p1.mod.setCell (.inl g5) _, p1.lb, p1.lm, p1.nb, p1.nm, p1.ln⟩, fun v T h => hT _ _ (p2 v T h), heap_set p3⟩
  have z := k _ 4 v' _ (k _ 3 (.int .u64 r'.hb) _ (k _ 2 (.int .u64 r'.hk) _ (k _ 1 (.int .u64 r'.xb) _ (k _ 0 (.int .u64 r'.xk) _ ⟨h.ps, fun _ _ h => h, g6⟩))))
  have e5 : (c == c + 5) = false := by simp
  have e25 : (c + 2 == c + 5) = false := by simp
  have e45 : (c + 4 == c + 5) = false := by simp
  refine ⟨?_, fun j hj => ?_, fun _ => by simp [hD2, hD4], fun _ => ⟨nb, by simpa using hx, g2, g3, g4, g5, ?_⟩⟩
  · rw [e5, Bool.or_false]
    exact z.1
  · by_cases e : j = c + 5
    · subst e
      exact ⟨fun e => by omega, fun e => by omega, fun e => by omega, fun e => by omega⟩
    · have : D j = true := by simpa [e] using hj
      simp only [e, if_false]
      exact (h.val j this).mono z.2.1
  · have := z.2.2
    simp only [beq_self_eq_true, Bool.or_true, cond_true]
    rw [this, if_neg (by omega), hy]
    simp [Value.cells]

theorem TJ.start (h : PS w b m mb s cs v T w1) : TJ w b m mb s s' cs v T c v0 r' (fun _ => false) xs w1.drew := by
  refine ⟨h.drew, fun j hj => ?_, fun hj => ?_, fun hj => ?_⟩ <;> cases hj

/-- Behind all. -/
theorem TJ.done (h : TJ w b m mb s s' cs v T c v0 r' D xs w1) (hD : ∀ j, j < c + 6 → D j = true) : ∃ v' nb, xs (c + 2) = .agg #[.int .u64 r'.xk, .int .u64 r'.xb, .int .u64 r'.hk, .int .u64 r'.hb, v'] ∧ TkAt w1 v' r'.T ∧ xs (c + 3) = .bool true ∧ xs (c + 4) = .pointer (some ⟨nb, 0, none⟩) ∧ nb ≠ b ∧ nb ≠ m ∧ nb ≠ mb ∧
    w1.heap[nb]? = some (.cells #[.int .u64 r'.xk, .int .u64 r'.xb, .int .u64 r'.hk, .int .u64 r'.hb, v'] 39) ∧ PS w b m mb s' cs v T w1 := by
  obtain ⟨v', h1, h2⟩ := (h.val (c + 2) (hD _ (by omega))).2.2.1 rfl
  have h3 := (h.val (c + 3) (hD _ (by omega))).2.2.2 rfl
  obtain ⟨nb, g1, g2, g3, g4, g5, g6⟩ := h.box (hD _ (by omega))
  rw [hD (c + 5) (by omega), h1] at g6
  have hps := h.ps
  rw [hD c (by omega)] at hps
  exact ⟨v', nb, h1, h2, h3, g1, g2, g3, g4, g6, hps⟩
end


end Go.Proofs.Ytkdimkaladbnpaa
