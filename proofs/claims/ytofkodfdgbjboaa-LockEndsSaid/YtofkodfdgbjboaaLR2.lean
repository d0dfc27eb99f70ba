/- The reference's locks in memory: where a Ref stands. -/
import Derived.Test.YtofkodfdgbjboaaLR1
import Derived.Test.YtofkodfdgbjboaaLockApartM
import Derived.StillTailTactics
import Derived.OwnWalk
import Derived.Laws.OwnMore
namespace Go.Proofs.Ytofkodfdgbjboaa
open Go.ChangeShapes Go.WideShapes Go.ChangeAt Go.RowKit Go.Burg
open Go.Burg.Lk

/-- The cells of Refs, and of words. -/
def refsOf (l : List (RefK × Wd)) : List Value := l.flatMap fun x => [.int .i64 x.1.1.1, .int .u32 x.1.1.2]
def wordsOf (l : List (RefK × Wd)) : List Value := l.map fun x => .int .u64 x.2.1
theorem refsOf_len (l : List (RefK × Wd)) : (refsOf l).length = l.length * 2 := by
  induction l with
  | nil => rfl
  | cons t T ih => simp only [refsOf, List.flatMap_cons, List.length_append, List.length_cons, List.length_nil] at ih ⊢; omega
theorem refsOf_app (T S : List (RefK × Wd)) : refsOf (T ++ S) = refsOf T ++ refsOf S := by simp [refsOf]
theorem wordsOf_app (T S : List (RefK × Wd)) : wordsOf (T ++ S) = wordsOf T ++ wordsOf S := by simp [wordsOf]
theorem refsOf_at : ∀ {l : List (RefK × Wd)} {n : Nat} {x : RefK × Wd}, l[n]? = some x → (refsOf l)[n * 2]? = some (.int .i64 x.1.1.1) ∧ (refsOf l)[n * 2 + 1]? = some (.int .u32 x.1.1.2) := by
  intro l
  induction l with
  | nil => intro n t h; simp at h
  | cons a T ih =>
    intro n t h
    cases n with
    | zero => simp at h; subst h; simp [refsOf]
    | succ n =>
      simp at h
      have := ih h
      simp only [refsOf, List.flatMap_cons] at this ⊢
      rw [List.getElem?_append_right (by simp; omega), List.getElem?_append_right (by simp; omega)]
      simp only [List.length_cons, List.length_nil]
      rw [show (n + 1) * 2 - (0 + 1 + 1) = n * 2 by omega, show (n + 1) * 2 + 1 - (0 + 1 + 1) = n * 2 + 1 by omega]
      exact this

/-- The reference's locks in block p. -/
structure RAt (w : World) (p : Nat) (rv wv : Value) (l : List (RefK × Wd)) (tk : Int) : Prop where
  hd : w.heap[p]? = some (.cells #[rv, wv, .int .i64 tk] 49 (0, 0))
  rs : w.ownsRow 0 30 2 rv l.length (refsOf l)
  ws : w.ownsRow 0 24 1 wv l.length (wordsOf l)

theorem grown_bel {w w' : World} (h : Below w.heap.size w w') : w.grownBy w' none := ⟨h.os, h.tape, h.output, h.size, fun k hk _ => h.block k hk⟩
section
variable {w w' : World} {p : Nat} {rv wv : Value} {l : List (RefK × Wd)} {tk : Int}
theorem RAt.keep (h : RAt w p rv wv l tk) (hb : Below w.heap.size w w') : RAt w' p rv wv l tk :=
  ⟨blk_below h.hd hb (lt_of_block h.hd), World.ownsRow.kept h.rs (grown_bel hb) (Classical.em _), World.ownsRow.kept h.ws (grown_bel hb) (Classical.em _)⟩
theorem RAt.alloc (h : RAt w p rv wv l tk) (o : Obj) : RAt (w.alloc o) p rv wv l tk := h.keep ((Below.refl _ _).alloc (Nat.le_refl _) _)
theorem RAt.lt (h : RAt w p rv wv l tk) : p < w.heap.size := lt_of_block h.hd
theorem row_form {e : TypeId} {size n : Nat} {v : Value} {xs : List Value} (h : w.ownsRow 0 e size v n xs) : ∃ a cap, v = .slice a n cap ∧ (0 < n → ∃ g, a = some ⟨g, 0, none⟩ ∧ g < w.heap.size ∧ n ≤ cap ∧ cap ≤ maxLen) := by
  rcases h.2 with ⟨rfl, h0⟩ | ⟨g, cap, cur, rfl, _, hg, h1, h2, _⟩
  · exact ⟨none, 0, by rw [h0], fun h => by omega⟩
  · exact ⟨_, cap, rfl, fun _ => ⟨g, rfl, lt_of_block hg, h1, h2⟩⟩
theorem refs_cell {g cap n : Nat} {x : RefK × Wd} (h : w.ownsRow 0 30 2 (.slice (some ⟨g, 0, none⟩) l.length cap) l.length (refsOf l)) (hx : l[n]? = some x) :
    w.cell? ⟨g, n * 2, none⟩ = some (.int .i64 x.1.1.1) ∧ w.cell? ⟨g, n * 2 + 1, none⟩ = some (.int .u32 x.1.1.2) := by
  have hn := (List.getElem?_eq_some_iff.1 hx).1
  obtain ⟨h1, h2⟩ := refsOf_at hx
  exact ⟨(World.ownsRow.cellAt h _ (by omega)).trans h1, (World.ownsRow.cellAt h _ (by omega)).trans h2⟩
theorem words_cell {g cap n : Nat} {x : RefK × Wd} (h : w.ownsRow 0 24 1 (.slice (some ⟨g, 0, none⟩) l.length cap) l.length (wordsOf l)) (hx : l[n]? = some x) : w.cell? ⟨g, n, none⟩ = some (.int .u64 x.2.1) := by
  have hn := (List.getElem?_eq_some_iff.1 hx).1
  refine (World.ownsRow.cellAt h _ (by omega)).trans ?_
  simp [wordsOf, hx]
theorem rfacts (h : RAt w p rv wv l tk) : w.cell? ⟨p, 0, none⟩ = some rv ∧ w.cell? ⟨p, 1, none⟩ = some wv ∧ w.cell? ⟨p, 2, none⟩ = some (.int .i64 tk) ∧ (∀ i, w.frozen? ⟨p, i, none⟩ = false) ∧ p < w.heap.size := by
  have hc := cell_of h.hd
  exact ⟨hc 0, hc 1, hc 2, free_of h.hd, lt_of_block h.hd⟩
end

/-- Where a Ref stands first. -/
def idx (l : List (RefK × Wd)) (r : RefK) : Option Nat := l.findIdx? (fun x => decide (x.1 = r))
theorem idx_some {l : List (RefK × Wd)} {r : RefK} {n : Nat} (h : idx l r = some n) : (∃ y, l[n]? = some (r, y) ∧ lkp l r = some y) ∧ ∀ j, j < n → ∀ z, l[j]? = some z → z.1 ≠ r := by
  induction l generalizing n with
  | nil => simp [idx] at h
  | cons a l ih =>
    unfold idx at h ih
    rw [List.findIdx?_cons] at h
    by_cases ha : a.1 = r
    · simp only [ha, decide_true, if_true, Option.some.injEq] at h
      subst h
      refine ⟨⟨a.2, by rw [← ha]; rfl, by rw [lkp_cons, if_pos ha.symm]⟩, fun j hj => absurd hj (Nat.not_lt_zero _)⟩
    · simp only [ha, decide_false, Bool.false_eq_true, if_false] at h
      obtain ⟨m, hm, rfl⟩ := Option.map_eq_some_iff.1 h
      obtain ⟨⟨y, h1, h2⟩, h3⟩ := ih hm
      refine ⟨⟨y, by simpa using h1, by rw [lkp_cons, if_neg (fun e => ha e.symm)]; exact h2⟩, fun j hj z hz => ?_⟩
      cases j with
      | zero => simp at hz; subst hz; exact ha
      | succ j => exact h3 j (by omega) z (by simpa using hz)
theorem idx_none {l : List (RefK × Wd)} {r : RefK} (h : idx l r = none) : lkp l r = none ∧ ∀ (j : Nat) z, l[j]? = some z → z.1 ≠ r := by
  have h1 : ∀ z ∈ l, z.1 ≠ r := fun z hz => by
    unfold idx at h
    rw [List.findIdx?_eq_none_iff] at h
    have := h z hz
    simpa using this
  exact ⟨lookup_none.2 h1, fun j z hz => h1 z (List.mem_of_getElem? hz)⟩

section
variable {w : World} {p : Nat} {rv wv : Value} {l : List (RefK × Wd)} {tk : Int}
set_option maxHeartbeats 1000000 in
theorem at_any (h : RAt w p rv wv l tk) (r : RefK) (hn : l.length ≤ 100000) : Calls Try.prog 56 #[.pointer (some ⟨p, 0, none⟩), .agg #[.int .i64 r.1.1, .int .u32 r.1.2]] w fun e w' => e = .returned (.int .i64 (match idx l r with | some n => (n : Int) | none => -1)) ∧ Below w.heap.size w w' := by
  obtain ⟨a, cap, rfl, hform⟩ := row_form h.rs
  have HA := hid (h.alloc (.cells #[.int .i64 r.1.1, .int .u32 r.1.2] 30))
  have HN := hid (heap_new w (.cells #[.int .i64 r.1.1, .int .u32 r.1.2] 30))
  have HF := hid hform
  have HB0 : Hid (Below w.heap.size w (w.alloc (.cells #[.int .i64 r.1.1, .int .u32 r.1.2] 30))) := hid ((Below.refl _ _).alloc (Nat.le_refl _) _)
  generalize hres : (match idx l r with | some n => (n : Int) | none => -1) = res
  have hmain : (∀ j, (res = j → ∀ z, l[j.toNat]? = some z → True)) := fun _ _ _ _ => trivial
  have hb : ∀ (i : Nat) z, i < l.length → (∀ j, j < i → ∀ z, l[j]? = some z → z.1 ≠ r) → l[i]? = some z → z.1 = r → res = i := fun i z hi hlo hz hzr => by
    rw [← hres]
    cases hx : idx l r with
    | none => exact absurd hzr ((idx_none hx).2 i z hz)
    | some n =>
      obtain ⟨⟨y, h1, _⟩, h2⟩ := idx_some hx
      have : ¬ i < n := fun e => h2 i e z hz hzr
      have : ¬ n < i := fun e => hlo n e _ h1 rfl
      have : n = i := by omega
      rw [this]
  have he : (∀ j, j < l.length → ∀ z, l[j]? = some z → z.1 ≠ r) → res = -1 := fun hall => by
    rw [← hres]
    cases hx : idx l r with
    | none => rfl
    | some n =>
      obtain ⟨⟨y, h1, _⟩, _⟩ := idx_some hx
      exact absurd rfl (hall n (List.getElem?_eq_some_iff.1 h1).1 _ h1)
  have HHB := hid hb
  have HHE := hid he
  clear h hform hres hmain hb he
  go_enter Try.func56, Try.ntmps56
  go_wp2_with fail
  go_loopw [5] (fun iv wr => ∃ i : Nat, i ≤ l.length ∧ iv = .int .i64 i ∧ Below (w.alloc (.cells #[.int .i64 r.1.1, .int .u32 r.1.2] 30)).heap.size (w.alloc (.cells #[.int .i64 r.1.1, .int .u32 r.1.2] 30)) wr ∧ ∀ j, j < i → ∀ z, l[j]? = some z → z.1 ≠ r) (fun iv _ => l.length - (intOf iv).toNat)
  case atStart => exact ⟨0, Nat.zero_le _, rfl, Below.refl _ _, fun j hj => absurd hj (Nat.not_lt_zero _)⟩
  case round =>
    obtain ⟨i, hi, rfl, hB, hlo⟩ := hrel
    have HK := hid (HA.out.keep hB)
    have HN1 := hid (blk_below HN.out hB (by simp))
    have HB := hid hB
    have HLO := hid hlo
    obtain ⟨c0, c1, c2, cf, cl⟩ := rfacts HK.out
    have n0 := cell_of HN1.out 0
    have n1 := cell_of HN1.out 1
    clear hB hlo
    by_cases hlt : i < l.length
    · obtain ⟨g, rfl, hg, hc1, hc2⟩ := HF.out (by omega)
      unfold maxLen at hc2
      obtain ⟨z, hz⟩ : ∃ z, l[i]? = some z := ⟨l[i], by simp [hlt]⟩
      obtain ⟨z0, z1⟩ := refs_cell HK.out.rs hz
      have HZ := hid hz
      clear hz
      have hcond : decide ((i : Int) < l.length) = true := by simp; exact hlt
      by_cases hr : z.1 = r
      · have hq1 : (z.1.1.1 == r.1.1) = true := by rw [hr]; simp
        have hq2 : (z.1.1.2 == r.1.2) = true := by rw [hr]; simp
        have hres := HHB.out i z hlt HLO.out HZ.out hr
        subst hres
        clear hr
        go_wp2_with fail
        go_quiet (fail)
        go_wp2_with fail
        go_ret
        exact ⟨rfl, below_chain HB0.out (below_drewN HB.out) HB0.out.size⟩
      · have hq : ¬ (z.1.1.1 = r.1.1 ∧ z.1.1.2 = r.1.2) := fun e => hr (Subtype.ext (Prod.ext e.1 e.2))
        have HR := hid hr
        by_cases h1 : z.1.1.1 = r.1.1
        · have hq1 : (z.1.1.1 == r.1.1) = true := by simpa using h1
          have hq2 : (z.1.1.2 == r.1.2) = false := by simpa using fun e => hq ⟨h1, e⟩
          clear h1 hq hr
          go_wp2_with fail
          go_quiet (fail)
          go_wp2_with fail
          go_roundw
          case rel => exact ⟨i + 1, by omega, by go_num, below_drewN HB.out, fun j hj z' hz' => by
            by_cases hji : j = i
            · subst hji
              rw [HZ.out] at hz'
              cases hz'
              exact HR.out
            · exact HLO.out j (by omega) z' hz'⟩
          case measure => simp [intOf]; omega
        · have hq1 : (z.1.1.1 == r.1.1) = false := by simpa using h1
          clear h1 hq hr
          go_wp2_with fail
          go_quiet (fail)
          go_wp2_with fail
          go_roundw
          case rel => exact ⟨i + 1, by omega, by go_num, below_drewN HB.out, fun j hj z' hz' => by
            by_cases hji : j = i
            · subst hji
              rw [HZ.out] at hz'
              cases hz'
              exact HR.out
            · exact HLO.out j (by omega) z' hz'⟩
          case measure => simp [intOf]; omega
    · obtain rfl : i = l.length := by omega
      have hres := HHE.out HLO.out
      subst hres
      have hcond : decide ((l.length : Int) < l.length) = false := by simp
      go_wp2_with fail
      go_ret
      exact ⟨rfl, below_chain HB0.out HB.out HB0.out.size⟩
end
end Go.Proofs.Ytofkodfdgbjboaa
