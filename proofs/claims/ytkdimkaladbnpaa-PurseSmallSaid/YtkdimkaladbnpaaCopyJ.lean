/- 'm, ok = does(p, m, l[i])': while its order is open. -/
import Derived.Test.YtkdimkaladbnpaaTellsJ
import Derived.Test.YtkdimkaladbnpaaCopy
namespace Go.Proofs.Ytkdimkaladbnpaa
open Go.ChangeShapes Go.WideShapes Go.ChangeAt Go.RowKit Go.Burg
open Go.Burg.Purse

def Own3 (b m mb : Nat) (i : Nat) : Prop := i = b ∨ i = m ∨ i = mb

structure KJ (W : World) (b m mb : Nat) (s s' : St) (cs : Array Value) (v : Value) (T : List Tk) (c : Nat) (v0 : Nat → Value) (r' : RSt) (D : Nat → Bool) (xs : Nat → Value) (w1 : World) : Prop where
  pu : PurseAt w1 b m (cond (D c) s' s)
  mbox : w1.heap[mb]? = some (.cells (cond (D (c + 4)) (xs (c + 2)).cells cs) 39 (0, 0))
  tk : TkAt w1 v T
  rel : Mod (Own3 b m mb) W w1
  val : ∀ j, D j = true → TV c v0 r' j (xs j) w1
  ord : D (c + 4) = true → D c = true ∧ D (c + 2) = true
  cl : D c = true → D 1 = true
  nb : mb ≠ b
  nm : mb ≠ m

section
variable {W : World} {b m mb : Nat} {s s' : St} {cs : Array Value} {v : Value} {T : List Tk} {c : Nat} {v0 : Nat → Value} {r' : RSt} {D : Nat → Bool} {xs : Nat → Value} {w w1 w2 : World}

theorem KJ.start (h : PS w b m mb s cs v T W) : KJ W b m mb s s' cs v T c v0 r' (fun _ => false) xs W.drew :=
  ⟨⟨h.pu.1, h.pu.2⟩, h.mbox, h.tk, (Mod.refl _ _).drew, (fun j hj => by cases hj), (fun hj => by cases hj), (fun hj => by cases hj), h.nb, h.nm⟩

theorem KJ.calm (h : KJ W b m mb s s' cs v T c v0 r' D xs w1) {i : Nat} (hD : D i = false) (hc : i ≠ c) (h4 : i ≠ c + 4) {u : Value} (hv : TV c v0 r' i u w1) :
    KJ W b m mb s s' cs v T c v0 r' (fun j => D j || j == i) (fun j => if j = i then u else xs j) w1 := by
  have e1 : (c == i) = false := by simp; exact fun e => hc e.symm
  have e4 : (c + 4 == i) = false := by simp; omega
  refine ⟨by rw [e1, Bool.or_false]; exact h.pu, ?_, h.tk, h.rel, fun j hj => ?_, fun hj => ?_, fun hj => ?_, h.nb, h.nm⟩
  · simp only [e4, Bool.or_false]
    cases hd : D (c + 4)
    · have := h.mbox
      rw [hd] at this
      exact this
    · have h2 := (h.ord hd).2
      have hne : c + 2 ≠ i := fun e => by rw [e, hD] at h2; cases h2
      have := h.mbox
      rw [hd] at this
      rw [if_neg hne]
      exact this
  · by_cases e : j = i
    · subst e
      simpa using hv
    · have : D j = true := by simpa [e] using hj
      simp only [e, if_false]
      exact h.val j this
  · simp only [e4, Bool.or_false] at hj
    obtain ⟨g1, g2⟩ := h.ord hj
    simp [g1, g2]
  · simp only [e1, Bool.or_false] at hj
    simp [h.cl hj]

/-- The box before its load. -/
theorem KJ.before (h : KJ W b m mb s s' cs v T c v0 r' D xs w1) (h1 : D 1 = false) : w1.heap[mb]? = some (.cells cs 39 (0, 0)) := by
  have h4 : D (c + 4) = false := by
    cases hc : D (c + 4)
    · rfl
    · have := h.cl (h.ord hc).1
      rw [h1] at this
      cases this
  have := h.mbox
  rwa [h4] at this

theorem KJ.call (h : KJ W b m mb s s' cs v T c v0 r' D xs w1) (hD : D c = false) (h1 : D 1 = true) {v' : Value} (hp : PurseAt w2 b m s') (ht : TkAt w2 v' r'.T) (hM : Mod (Own b m) w1 w2) :
    KJ W b m mb s s' cs v T c v0 r' (fun j => D j || j == c) (fun j => if j = c then .tuple #[.agg #[.int .u64 r'.xk, .int .u64 r'.xb, .int .u64 r'.hk, .int .u64 r'.hb, v'], .bool true] else xs j) w2 := by
  have hps := h.pu
  rw [hD] at hps
  have hT : ∀ v T, TkAt w1 v T → TkAt w2 v T := fun v T h => tk_mod h hps hM
  have h4 : D (c + 4) = false := by
    cases hc : D (c + 4)
    · rfl
    · have := (h.ord hc).1
      rw [hD] at this
      cases this
  have e4 : (c + 4 == c) = false := by simp
  have nb := h.nb
  have nm := h.nm
  refine ⟨by simpa using hp, ?_, hT _ _ h.tk, h.rel.trans hM fun i _ hi => by rcases hi with rfl | rfl; exact .inl rfl; exact .inr (.inl rfl), fun j hj => ?_, fun hj => ?_, fun _ => by simp [h1], h.nb, h.nm⟩
  · have hm := h.mbox
    rw [h4] at hm
    simp only [e4, Bool.or_false, h4]
    exact (hM.block mb (lt_of_block hm) (by rintro (h | h) <;> omega)).trans hm
  · by_cases e : j = c
    · subst e
      simp only [if_true]
      exact TV.mid (.inl rfl) ht
    · have : D j = true := by simpa [e] using hj
      simp only [e, if_false]
      exact (h.val j this).mono hT
  · simp only [e4, Bool.or_false] at hj
    rw [h4] at hj
    cases hj

theorem KJ.store (h : KJ W b m mb s s' cs v T c v0 r' D xs w1) (hD : D (c + 4) = false) (hDc : D c = true) (hD2 : D (c + 2) = true) {v' u : Value} (hy : xs (c + 2) = .agg #[.int .u64 r'.xk, .int .u64 r'.xb, .int .u64 r'.hk, .int .u64 r'.hb, v']) (hsz : cs.size = 5) :
    KJ W b m mb s s' cs v T c v0 r' (fun j => D j || j == c + 4) (fun j => if j = c + 4 then u else xs j)
      (((((w1.setCell ⟨mb, 0, none⟩ (.int .u64 r'.xk)).setCell ⟨mb, 1, none⟩ (.int .u64 r'.xb)).setCell ⟨mb, 2, none⟩ (.int .u64 r'.hk)).setCell ⟨mb, 3, none⟩ (.int .u64 r'.hb)).setCell ⟨mb, 4, none⟩ v') := by
  have g6 := h.mbox
  rw [hD] at g6
  simp only [cond_false] at g6
  have k : ∀ (X : World) (i : Nat) (u : Value) (cs' : Array Value), (PurseAt X b m (cond (D c) s' s) ∧ (∀ v T, TkAt w1 v T → TkAt X v T) ∧ Mod (Own3 b m mb) W X ∧ X.heap[mb]? = some (.cells cs' 39 (0, 0))) →
      (PurseAt (X.setCell ⟨mb, i, none⟩ u) b m (cond (D c) s' s) ∧ (∀ v T, TkAt w1 v T → TkAt (X.setCell ⟨mb, i, none⟩ u) v T) ∧ Mod (Own3 b m mb) W (X.setCell ⟨mb, i, none⟩ u) ∧ (X.setCell ⟨mb, i, none⟩ u).heap[mb]? = some (.cells (cs'.setIfInBounds i u) 39 (0, 0))) := by
    rintro X i u cs' ⟨p1, p2, p3, p4⟩
    exact ⟨p1.setCell (fun e => h.nb e.symm) (fun e => h.nm e.symm) _, fun v T hh => own_set (p2 v T hh) (own_ty (p2 v T hh) p4 (by decide)) _, p3.setCell (.inl (.inr (.inr rfl))) _, heap_set p4⟩
  have z := k _ 4 v' _ (k _ 3 (.int .u64 r'.hb) _ (k _ 2 (.int .u64 r'.hk) _ (k _ 1 (.int .u64 r'.xb) _ (k _ 0 (.int .u64 r'.xk) _ ⟨h.pu, fun _ _ h => h, h.rel, g6⟩))))
  have e5 : (c == c + 4) = false := by simp
  refine ⟨?_, ?_, z.2.1 _ _ h.tk, z.2.2.1, fun j hj => ?_, (fun _ => by simp [hD2, hDc]), (fun hj => by have := h.cl hDc; simp [this]), h.nb, h.nm⟩
  · rw [e5, Bool.or_false]
    exact z.1
  · have := z.2.2.2
    simp only [beq_self_eq_true, Bool.or_true, cond_true]
    rw [this, if_neg (by omega), hy]
    obtain ⟨l⟩ := cs
    simp at hsz
    rcases l with _ | ⟨a0, _ | ⟨a1, _ | ⟨a2, _ | ⟨a3, _ | ⟨a4, _ | ⟨a5, l⟩⟩⟩⟩⟩⟩ <;> simp at hsz
    simp [Value.cells]
  · by_cases e : j = c + 4
    · subst e
      exact ⟨fun e => by omega, fun e => by omega, fun e => by omega, fun e => by omega⟩
    · have : D j = true := by simpa [e] using hj
      simp only [e, if_false]
      exact (h.val j this).mono z.2.1

theorem KJ.done (h : KJ W b m mb s s' cs v T c v0 r' D xs w1) (hD : ∀ j, j < c + 5 → D j = true) : ∃ v', TkAt w1 v' r'.T ∧ xs (c + 3) = .bool true ∧ w1.heap[mb]? = some (.cells #[.int .u64 r'.xk, .int .u64 r'.xb, .int .u64 r'.hk, .int .u64 r'.hb, v'] 39) ∧ PurseAt w1 b m s' ∧ Mod (Own3 b m mb) W w1 := by
  obtain ⟨v', h1, h2⟩ := (h.val (c + 2) (hD _ (by omega))).2.2.1 rfl
  have h3 := (h.val (c + 3) (hD _ (by omega))).2.2.2 rfl
  have g6 := h.mbox
  rw [hD (c + 4) (by omega), h1] at g6
  have hps := h.pu
  rw [hD c (by omega)] at hps
  exact ⟨v', h2, h3, g6, hps, h.rel⟩

/-- A cell that came in. -/
theorem KJ.old (h : KJ W b m mb s s' cs v T c v0 r' D xs w1) (hP : PS w b m mb s cs v T W) {bl : Nat} (hb : bl < w.heap.size) (j : Nat) : w1.cell? ⟨bl, j, none⟩ = w.cell? ⟨bl, j, none⟩ := by
  have l1 := hP.lb
  have l2 := hP.lm
  have l3 := hP.ln
  exact (World.cell?_of_block (w := W) (h.rel.block bl (Nat.lt_of_lt_of_le hb hP.mod.size) (by rintro (h | h | h) <;> omega))).trans (hP.old hb j)

/-- The purse behind, and another one that was left alone. -/
theorem PS.behind {W1 : World} {v' : Value} (h : PS w b m mb s cs v T W) (hp : PurseAt W1 b m s') (hb : W1.heap[mb]? = some (.cells #[.int .u64 r'.xk, .int .u64 r'.xb, .int .u64 r'.hk, .int .u64 r'.hb, v'] 39)) (ht : TkAt W1 v' r'.T) (hM : Mod (Own3 b m mb) W W1) :
    PS w b m mb s' #[.int .u64 r'.xk, .int .u64 r'.xb, .int .u64 r'.hk, .int .u64 r'.hb, v'] v' r'.T W1 := by
  have l1 := h.lb
  have l2 := h.lm
  have l3 := h.ln
  exact ⟨hp, hb, ht, h.mod.trans hM fun i _ hi => by rcases hi with rfl | rfl | rfl <;> assumption, h.lb, h.lm, h.nb, h.nm, h.ln⟩
theorem PS.apart {W1 : World} {b2 m2 mb2 : Nat} {s2 : St} {cs2 : Array Value} {v2 : Value} {T2 : List Tk} (h : PS w b2 m2 mb2 s2 cs2 v2 T2 W) (h0 : PS w b m mb s cs v T W) (hM : Mod (Own3 b m mb) W W1)
    (a1 : b2 ≠ b ∧ b2 ≠ m ∧ b2 ≠ mb) (a2 : m2 ≠ b ∧ m2 ≠ m ∧ m2 ≠ mb) (a3 : mb2 ≠ b ∧ mb2 ≠ m ∧ mb2 ≠ mb) : PS w b2 m2 mb2 s2 cs2 v2 T2 W1 := by
  have l1 := h0.lb
  have l2 := h0.lm
  have l3 := h0.ln
  refine ⟨h.pu.mod hM (by rintro (e | e | e) <;> omega) (by rintro (e | e | e) <;> omega), (hM.block mb2 (lt_of_block h.mbox) (by rintro (e | e | e) <;> omega)).trans h.mbox, ?_, h.mod.trans hM fun i _ hi => by rcases hi with rfl | rfl | rfl <;> assumption, h.lb, h.lm, h.nb, h.nm, h.ln⟩
  refine own_same h.tk fun g hg => hM.block g ((World.ownsRow.lt h.tk g hg).2) ?_
  rintro (rfl | rfl | rfl)
  · exact own_ty h.tk h0.pu.1 (by decide) g hg rfl
  · obtain ⟨es, c, h1, _⟩ := h0.pu.2
    rcases h.tk.2 with ⟨rfl, _⟩ | ⟨g', cap, cur, rfl, _, hh, _⟩
    · simp [Value.ownBlock] at hg
    · simp [Value.ownBlock] at hg
      subst hg
      rw [hh] at h1
      cases h1
  · exact own_ty h.tk h0.mbox (by decide) g hg rfl
end
end Go.Proofs.Ytkdimkaladbnpaa
