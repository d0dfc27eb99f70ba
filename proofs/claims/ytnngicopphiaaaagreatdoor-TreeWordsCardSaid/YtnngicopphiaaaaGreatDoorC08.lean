/- Part 8 of 51 of a proof: lemmas on the functions that it reaches. -/
import Derived.RangeFuncNested
import Derived.RangeFuncBound
import Derived.RangeFuncCalls
import Derived.RangeFuncLeaves
import Derived.Shelf.Abstract
import Derived.Shelf.RegionOpen
import Derived.WalkKit
import Derived.OwnWalkIn
import Derived.TacticsInMore
import Derived.LoopNIn
import Derived.LoopIn
import Derived.Test.YtnngicopphiaaaaGreatDoorC02
namespace Go.Burg
open Go Go.RowKit
structure MineOk (n₀ : Nat) (Mine : World → Nat → Prop) : Prop where
  grow : ∀ {W W' : World} {row : Option Nat} {i : Nat}, n₀ ≤ W.heap.size → W.grownBy W' row → (∀ r, row = some r → n₀ ≤ r ∧ ∃ o : Obj, W.heap[r]? = some o ∧ o.isCells = false) → Mine W' i → Mine W i
structure KpM (n₀ : Nat) (Mine : World → Nat → Prop) (A B : World) : Prop where
  size : A.heap.size ≤ B.heap.size
  cells : ∀ (i : Nat) (o : Obj), n₀ ≤ i → ¬ Mine A i → A.heap[i]? = some o → o.isCells = true → B.heap[i]? = some o
  mine : ∀ i, Mine B i → Mine A i ∨ A.heap.size ≤ i
theorem grown_below {A B : World} (h : Below A.heap.size A B) : A.grownBy B none := ⟨h.os, h.tape, h.output, h.size, fun k hk _ => h.block k hk⟩
section
variable {n₀ : Nat} {Mine : World → Nat → Prop} {A B C : World}
theorem KpM.refl (n₀ : Nat) (Mine : World → Nat → Prop) (A : World) : KpM n₀ Mine A A := ⟨Nat.le_refl _, fun _ _ _ _ h _ => h, fun _ h => .inl h⟩
theorem KpM.trans (h : KpM n₀ Mine A B) (k : KpM n₀ Mine B C) : KpM n₀ Mine A C :=
  ⟨Nat.le_trans h.size k.size, fun i o hi hm ho hc => k.cells i o hi (fun hb => (h.mine i hb).elim hm (fun hl => by have := lt_of_block ho; omega)) (h.cells i o hi hm ho hc) hc,
   fun i hc => (k.mine i hc).elim (h.mine i) (fun hl => .inr (Nat.le_trans h.size hl))⟩
theorem KpM.below (hM : MineOk n₀ Mine) (hn : n₀ ≤ A.heap.size) (h : Below A.heap.size A B) : KpM n₀ Mine A B :=
  ⟨h.size, fun i _ _ _ ho _ => (h.block i (lt_of_block ho)).trans ho, fun i hb => .inl (hM.grow hn (grown_below h) (fun r e => by cases e) hb)⟩
theorem KpM.put (hM : MineOk n₀ Mine) (W : World) (l : Nat) (o o' : Obj) (hn : n₀ ≤ l) (h : W.heap[l]? = some o) (ho : o.isCells = false) : KpM n₀ Mine W (W.putObj l o') :=
  ⟨by simp, fun i o2 _ _ hi hc => by
    by_cases e : i = l
    · subst e
      rw [h] at hi
      cases hi
      rw [ho] at hc
      cases hc
    · exact (World.putObj_heap_other e).trans hi, fun i hb => .inl (hM.grow (by have := lt_of_block h; omega) (grownBy_putObj' W l o') (fun r e => by cases e; exact ⟨hn, o, h, ho⟩) hb)⟩
theorem KpM.priv (h : KpM n₀ Mine A B) {c : Nat} (hc : ¬ Mine A c) (hl : c < A.heap.size) : ¬ Mine B c := fun hb => (h.mine c hb).elim hc (fun h => by omega)
theorem MineOk.priv (hM : MineOk n₀ Mine) {c : Nat} (hn : n₀ ≤ A.heap.size) (hc : ¬ Mine A c) (h : Below A.heap.size A B) : ¬ Mine B c := fun hb => hc (hM.grow hn (grown_below h) (fun r e => by cases e) hb)
end
def SeqOwnM {α : Type} (Mine : World → Nat → Prop) (P : Program) (g : Nat) (lb : Array Value) (encs : α → Array Value) (n₀ : Nat) (S Sp : List α → Prop) (N : Nat) (w : World) : Prop :=
  ∀ (l : Nat) (J Jx : List α → World → Prop) (W : World), Below w.heap.size w W → (∀ i, Mine W i → i < W.heap.size) → OwnFrom W.heap.size J → OwnFrom W.heap.size Jx →
    (∀ pre x W1 m, J pre W1 → pre.length < N → YieldAt Fence.wide m P l (encs x) W1 fun e W' => (e = .returned (.bool true) ∧ J (pre ++ [x]) W' ∧ KpM n₀ Mine W1 W' ∧ KeepsFrom W.heap.size W1 W') ∨ (e = .returned (.bool false) ∧ Jx (pre ++ [x]) W' ∧ KeepsFrom W.heap.size W1 W')) →
    J [] W → Calls P g (#[.func (.yield l) #[] #[]] ++ lb) W fun e W' => (∃ v, e = .returned v) ∧ ((∃ xs, S xs ∧ J xs W') ∨ ∃ pre, Sp pre ∧ Jx pre W')
def SeqOwn {α : Type} (P : Program) (g : Nat) (lb : Array Value) (encs : α → Array Value) (n₀ : Nat) (S Sp : List α → Prop) (N : Nat) (w : World) : Prop :=
  ∀ (Mine : World → Nat → Prop), MineOk n₀ Mine → ∀ (l : Nat) (J Jx : List α → World → Prop) (W : World), Below w.heap.size w W → (∀ i, Mine W i → i < W.heap.size) → OwnFrom W.heap.size J → OwnFrom W.heap.size Jx →
    (∀ pre x W1 m, J pre W1 → pre.length < N → YieldAt Fence.wide m P l (encs x) W1 fun e W' => (e = .returned (.bool true) ∧ J (pre ++ [x]) W' ∧ KpM n₀ Mine W1 W' ∧ KeepsFrom W.heap.size W1 W') ∨ (e = .returned (.bool false) ∧ Jx (pre ++ [x]) W' ∧ KeepsFrom W.heap.size W1 W')) →
    J [] W → Calls P g (#[.func (.yield l) #[] #[]] ++ lb) W fun e W' => (∃ v, e = .returned v) ∧ ((∃ xs, S xs ∧ J xs W') ∨ ∃ pre, Sp pre ∧ Jx pre W')
theorem SeqOwn.up {α : Type} {P : Program} {g : Nat} {lb : Array Value} {encs : α → Array Value} {n₀ : Nat} {S Sp : List α → Prop} {N N' : Nat} {w : World} (h : SeqOwn P g lb encs n₀ S Sp N w) (hN : N ≤ N') : SeqOwn P g lb encs n₀ S Sp N' w :=
  fun Mine hM l J Jx W hW hml hJ hJx hY h0 => h Mine hM l J Jx W hW hml hJ hJx (fun pre x W1 m hj hl => hY pre x W1 m hj (by omega)) h0
theorem own_below {β : Type} {B : Nat} {J : β → World → Prop} (hJ : OwnFrom B J) {s : β} {A C : World} (h : J s A) (hb : Below A.heap.size A C) : J s C :=
  hJ s A C none h ⟨hb.os, hb.tape, hb.output, hb.size, fun k hk _ => hb.block k hk⟩ (fun r e => by cases e)
theorem keepsFrom_mono {B B' : Nat} {W W' : World} (h : KeepsFrom B W W') (hB : B ≤ B') : KeepsFrom B' W W' := ⟨h.size, fun k o hk h1 h2 => h.same k o (Nat.le_trans hB hk) h1 h2⟩
theorem keepsFrom_below {B : Nat} {W W' : World} (h : Below W.heap.size W W') : KeepsFrom B W W' := ⟨h.size, fun k _ _ hk _ => (h.block k (lt_of_block hk)).trans hk⟩
theorem keepsFrom_put {B l : Nat} (W : World) (o : Obj) (h : l < B) : KeepsFrom B W (W.putObj l o) := ⟨by simp, fun k o2 hk h1 _ => (World.putObj_heap_other (by omega)).trans h1⟩
theorem roundIn_inRound {F : Fence} {n : Nat} {P : Program} {l : Nat} {f : FuncId} {tmps : Array Value} {assign body : Code} {w : World} {R : Ending → World → Prop} (L : Nat) (h : RoundIn F n P l f tmps assign body w R) : RoundIn (F.inRound L) n P l f tmps assign body w R := h
structure Book (d : Nat) (r : Loop) (W : World) : Prop where
  df : W.heap[d]? = some (.deferred (some []))
  lp : W.heap[d + 1]? = some (.loop r)
theorem Book.keeps {d : Nat} {r : Loop} {W W' : World} (h : Book d r W) (k : KeepsFrom d W W') : Book d r W' := ⟨k.same _ _ (Nat.le_refl _) h.df rfl, k.same _ _ (by omega) h.lp rfl⟩
theorem Book.turn {d : Nat} {r : Loop} {W : World} (h : Book d r W) (r' : Loop) : Book d r' (W.putObj (d + 1) (.loop r')) :=
  ⟨(World.putObj_heap_other (by omega)).trans h.df, World.putObj_heap_same (lt_of_block h.lp)⟩
theorem Book.grown {d B : Nat} {r : Loop} {W W' : World} {row : Option Nat} (h : Book d r W) (hB : d + 2 ≤ B) (hg : W.grownBy W' row) (hr : ∀ r, row = some r → B ≤ r) : Book d r W' := by
  have hn : ∀ k, k < B → some k ≠ row := fun k hk e => by have := hr k e.symm; omega
  exact ⟨(hg.block d (lt_of_block h.df) (hn d (by omega))).trans h.df, (hg.block (d + 1) (lt_of_block h.lp) (hn _ (by omega))).trans h.lp⟩
def RoundEnd {α : Type} (d n₀ : Nat) (Mine : World → Nat → Prop) (I Ix : List α → World → Prop) (xs : List α) (W : World) : Exit → Act → World → Prop
  | .normal, _, W' => KeepsFrom d W W' ∧ KpM n₀ Mine W W' ∧ I xs W'
  | .ret, _, W' => KeepsFrom d W W' ∧ Ix xs W'
  | _, _, _ => False
section
variable {α : Type} {P : Program} {g : Operand} {ps : Array Tmp} {assign body : Code} {Q : Exit → Act → World → Prop} {a : Act} {w : World} {n : Nat}
theorem range_own (h1 : 1 ≤ n) {gf : Nat} {lb : Array Value} (hg : a.eval g = .func (.func gf) #[] lb) (eg : ∀ args w, (callFunc gf args).run P w = .ok (.enter gf args) w)
    {encs : α → Array Value} {n₀ : Nat} {S Sp : List α → Prop} {N : Nat} {w0 : World} (Mine : World → Nat → Prop) (hMine : MineOk n₀ Mine) (hseq : SeqOwnM Mine P gf lb encs n₀ S Sp N w0) (hn0 : n₀ ≤ w.heap.size) (hml : ∀ i, Mine w i → i < w.heap.size) (hb0 : Below w0.heap.size w0 w) (hps : ∀ x, (encs x).size = ps.size)
    (I Ix : List α → World → Prop) (hI : OwnFrom w.heap.size I) (hIx : OwnFrom w.heap.size Ix) (h0 : I [] w) (Ax : α → Act → World → Prop) (hAx : ∀ x a', OwnFrom w.heap.size (fun (_ : Unit) W => Ax x a' W))
    (hassign : ∀ (l : Nat) (pre : List α) (x : α) (W : World) (K : Act → World → Prop), I pre W → (∀ a' W', KeepsFrom w.heap.size W W' → KpM n₀ Mine W W' → I pre W' → Ax x a' W' → K a' W') →
      assign.wpIn (Fence.wide.inRound l) (n - 1 - 1) P (Exit.then K (fun _ _ _ => False)) { tmps := (ps.zip (encs x)).foldl (fun t (p, v) => t.setIfInBounds p v) a.tmps, defers := [] } W)
    (hbody : ∀ (l : Nat) (pre : List α) (x : α) (a' : Act) (W : World), w.heap.size ≤ l → (∃ r, W.heap[l]? = some (.loop r)) → I pre W → Ax x a' W → pre.length < N → body.wpIn (Fence.wide.inRound l) (n - 1 - 1) P (RoundEnd w.heap.size n₀ Mine I Ix (pre ++ [x]) W) a' W)
    (hdone : ∀ (D : Nat) (xs : List α) (W : World), w.heap.size ≤ D → S xs → I xs W → W.heap[D]? = some (.deferred (some [])) → Q .normal { a with defers := { target := .collected D, args := #[] } :: a.defers } W)
    (hstop : ∀ (D : Nat) (pre : List α) (W : World), w.heap.size ≤ D → Sp pre → Ix pre W → W.heap[D]? = some (.deferred (some [])) → Code.ret.wpIn Fence.wide n P Q { a with defers := { target := .collected D, args := #[] } :: a.defers } W) :
    (Code.rangeFunc g ps assign body).wpIn Fence.wide n P Q a w := by
  refine wpIn_rangeFunc fun fn hfn => ?_
  let rec0 : Loop := { state := .ready, pending := none, fn := fn, tmps := a.tmps, params := ps, assign := assign, body := body, defers := w.heap.size }
  let W1 : World := (w.alloc (.deferred (some []))).alloc (.loop rec0)
  have hbook : Book w.heap.size rec0 W1 := by
    refine ⟨(Below.heap_alloc _ _ _ (by simp)).trans (World.alloc_heap_new w _), ?_⟩
    have := World.alloc_heap_new (w.alloc (.deferred (some []))) (.loop rec0)
    rwa [World.size_alloc] at this
  have hs1 : W1.heap.size = w.heap.size + 2 := by simp [W1]
  have hw1 : Below w.heap.size w W1 := ((Below.refl _ w).alloc (Nat.le_refl _) _).alloc (by simp) _
  refine ⟨w.heap.size + 1, [{ target := .collected w.heap.size, args := #[] }], W1, { target := .fn (.func gf) lb, args := #[.func (.yield (w.heap.size + 1)) #[] #[]] }, W1, gf, #[.func (.yield (w.heap.size + 1)) #[] #[]] ++ lb, W1,
    run_enterLoop_outer _ _ _ _ _, by simp only [resolve, hg]; simp [go_sem], fun f' _ => trivial, by simp [invoke, go_sem, eg], fun _ => h1, ?_⟩
  have hbW : Below w0.heap.size w0 W1 := hb0.trans ((((Below.refl _ w).alloc (Nat.le_refl _) _).alloc (by simp) _).mono hb0.size)
  have up : ∀ {row : Option Nat} {A : World}, (∀ r, row = some r → W1.heap.size ≤ r ∧ ∃ o : Obj, A.heap[r]? = some o ∧ o.isCells = false) → ∀ r, row = some r → w.heap.size ≤ r ∧ ∃ o : Obj, A.heap[r]? = some o ∧ o.isCells = false := fun h r e => ⟨by have := (h r e).1; omega, (h r e).2⟩
  refine callsIn_wide.2 ((hseq (w.heap.size + 1) (fun pre W => I pre W ∧ Book w.heap.size rec0 W) (fun pre W => Ix pre W ∧ Book w.heap.size { rec0 with state := .done, pending := some .ret } W) W1 hbW (fun i hm => by have := hml i (hMine.grow hn0 (grown_below hw1) (fun r e => by cases e) hm); omega)
    (fun s A B row hs hg hr => ⟨hI s A B row hs.1 hg (up hr), hs.2.grown (by omega) hg (fun r e => (hr r e).1)⟩)
    (fun s A B row hs hg hr => ⟨hIx s A B row hs.1 hg (up hr), hs.2.grown (by omega) hg (fun r e => (hr r e).1)⟩) ?_ ⟨hI.alloc _ (hI.alloc _ h0), hbook⟩).mono ?_)
  · -- a round
    rintro pre x W m ⟨hi, hk⟩ hlen
    refine ⟨fn, _, assign, body, run_yield hk.lp (hps x), ?_⟩
    have hR : RoundIn Fence.wide (n - 1 - 1) P (w.heap.size + 1) fn ((ps.zip (encs x)).foldl (fun t (p, v) => t.setIfInBounds p v) a.tmps) assign body W (fun e W' => (e = .returned (.bool true) ∧ (I (pre ++ [x]) W' ∧ Book w.heap.size rec0 W') ∧ KpM n₀ Mine W W' ∧ KeepsFrom W1.heap.size W W') ∨ (e = .returned (.bool false) ∧ (Ix (pre ++ [x]) W' ∧ Book w.heap.size { rec0 with state := .done, pending := some .ret } W') ∧ KeepsFrom W1.heap.size W W')) := by
      refine roundIn_of_wpIn hfn (hassign _ pre x W _ hi fun a' Wa hka hpa hia hax => ?_)
      have hka2 := hk.keeps hka
      refine ⟨_, run_beginRound hka2.lp rfl, ?_⟩
      have hput : ∀ {A : World} {r : Loop} (r' : Loop), Book w.heap.size r A → KpM n₀ Mine A (A.putObj (w.heap.size + 1) (.loop r')) := fun r' hA => KpM.put hMine _ _ _ _ (by omega) hA.lp rfl
      have hob : ∀ {J : List α → World → Prop} {s : List α} {A : World} {r : Loop} (r' : Loop), OwnFrom w.heap.size J → J s A → Book w.heap.size r A → J s (A.putObj (w.heap.size + 1) (.loop r')) := fun r' hJ hs hA => hJ.putObj _ hs (by omega) hA.lp rfl
      have hkq : ∀ {A C : World}, KeepsFrom w.heap.size A C → KeepsFrom W1.heap.size A C := fun h => keepsFrom_mono h (by omega)
      have hbusy := hka2.turn { rec0 with state := .busy }
      refine wpIn_mono (hbody _ pre x a' _ (by omega) ⟨_, hbusy.lp⟩ (hob _ hI hia hka2) ((hAx x a').putObj (s := ()) _ hax (by omega) hka2.lp rfl) hlen) ?_
      intro e a3 W3 hp
      cases e with
      | normal =>
        obtain ⟨hkf, hkp, hi3⟩ := hp
        have hb3 := hbusy.keeps hkf
        exact ⟨_, _, run_endRound none hb3.lp, .inl ⟨rfl, ⟨hob _ hI hi3 hb3, hb3.turn rec0⟩, (hpa.trans (hput _ hka2)).trans (hkp.trans (hput _ hb3)), (hkq hka).trans ((keepsFrom_put _ _ (by omega)).trans ((hkq hkf).trans (keepsFrom_put _ _ (by omega))))⟩⟩
      | ret =>
        obtain ⟨hkf, hi3⟩ := hp
        have hb3 := hbusy.keeps hkf
        exact ⟨_, _, run_endRound (some .ret) hb3.lp, .inr ⟨rfl, ⟨hob _ hIx hi3 hb3, hb3.turn _⟩, (hkq hka).trans ((keepsFrom_put _ _ (by omega)).trans ((hkq hkf).trans (keepsFrom_put _ _ (by omega))))⟩⟩
      | exit id => exact hp.elim
      | goto t => exact hp.elim
      | panic ch => exact hp.elim
      | outgrown => exact hp.elim
    exact ⟨hR.1, fun c cs _ => hR.2 c cs (fun d h => by cases h)⟩
  · -- behind the iterator
    rintro e W2 ⟨⟨v, rfl⟩, (⟨xs, hS, hi, hk⟩ | ⟨pre, hSp, hi, hk⟩)⟩
    · have ht := hk.turn { rec0 with state := .exhausted }
      exact ⟨none, _, run_endLoop hk.lp (by simp [rec0]), hdone _ xs _ (Nat.le_refl _) hS (hI.putObj _ hi (by omega) hk.lp rfl) ht.df⟩
    · have ht := hk.turn { rec0 with state := .exhausted, pending := some .ret }
      exact ⟨some .ret, _, run_endLoop hk.lp (by simp), hstop _ pre _ (Nat.le_refl _) hSp (hIx.putObj _ hi (by omega) hk.lp rfl) ht.df⟩
end
end Go.Burg
