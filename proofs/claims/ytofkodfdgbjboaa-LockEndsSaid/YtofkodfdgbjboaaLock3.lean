/- Locks in memory: their readers. -/
import Derived.Test.YtofkodfdgbjboaaLock2
import Derived.Test.YtofkodfdgbjboaaKeys
import Derived.Test.YtofkodfdgbjboaaMapIter
import Derived.Test.YtofkodfdgbjboaaTurn
import Derived.BigQuiet
namespace Go.Proofs.Ytofkodfdgbjboaa
open Go.ChangeShapes Go.WideShapes Go.ChangeAt Go.RowKit Go.Burg
open Go.Burg.Lk

/-- What stands at a key. -/
def lkp {α β : Type} [DecidableEq α] (l : List (α × β)) (k : α) : Option β := l.lookup k

/-- The block of locks. -/
def LBlk (mp : Option Nat) (tk : Int) : Obj := .cells #[.map mp, .int .i64 tk] 59 (0, 0)
/-- The locks in block b: their words in map block m, in the order in which they were made; how many were locked. -/
def LocksAt (w : World) (b m : Nat) (l : List (RefK × Wd)) (tk : Int) : Prop := w.heap[b]? = some (LBlk (some m) tk) ∧ MapOf refV wV w m l

theorem LocksAt.lt {w : World} {b m : Nat} {l : List (RefK × Wd)} {tk : Int} (h : LocksAt w b m l tk) : b < w.heap.size ∧ m < w.heap.size := ⟨lt_of_block h.1, h.2.lt⟩
theorem LocksAt.ne {w : World} {b m : Nat} {l : List (RefK × Wd)} {tk : Int} (h : LocksAt w b m l tk) : b ≠ m := fun e => by
  obtain ⟨es, c, h1, _⟩ := h.2
  have h2 := h.1
  subst e
  rw [h2] at h1
  cases h1
theorem LocksAt.below {w w' : World} {b m B : Nat} {l : List (RefK × Wd)} {tk : Int} (h : LocksAt w b m l tk) (hb : Below B w w') (h1 : b < B) (h2 : m < B) : LocksAt w' b m l tk := ⟨blk_below h.1 hb h1, h.2.below hb h2⟩
theorem LocksAt.keep {w w' : World} {b m : Nat} {l : List (RefK × Wd)} {tk : Int} (h : LocksAt w b m l tk) (hb : Below w.heap.size w w') : LocksAt w' b m l tk := h.below hb h.lt.1 h.lt.2
theorem LocksAt.alloc {w : World} {b m : Nat} {l : List (RefK × Wd)} {tk : Int} (h : LocksAt w b m l tk) (o : Obj) : LocksAt (w.alloc o) b m l tk := ⟨blk_alloc h.1, h.2.alloc o⟩
theorem LocksAt.mod {w w' : World} {b m : Nat} {l : List (RefK × Wd)} {tk : Int} {S : Nat → Prop} (h : LocksAt w b m l tk) (hM : Mod S w w') (h1 : ¬ S b) (h2 : ¬ S m) : LocksAt w' b m l tk := ⟨(hM.block b h.lt.1 h1).trans h.1, h.2.mod hM h2⟩
/-- What a deed with locks may turn. -/
def Own (b m : Nat) (i : Nat) : Prop := i = b ∨ i = m

theorem lfacts {w : World} {b : Nat} {mp : Option Nat} {tk : Int} (h : w.heap[b]? = some (LBlk mp tk)) :
    w.cell? ⟨b, 0, none⟩ = some (.map mp) ∧ w.cell? ⟨b, 1, none⟩ = some (.int .i64 tk) ∧ (∀ i, w.frozen? ⟨b, i, none⟩ = false) ∧ b < w.heap.size := by
  have hc := cell_of h
  exact ⟨hc 0, hc 1, free_of h, lt_of_block h⟩

/-- The word of a Ref. -/
theorem zeroWord (w : World) : (zeroValue 24).run Try.prog w = .ok (wV ⟨0, by omega, by omega⟩) w := by kernel_rfl
/-- 0. -/
def w0 : Wd := ⟨0, by omega, by omega⟩
theorem lk_run {w : World} {m : Nat} {l : List (RefK × Wd)} (h : MapOf refV wV w m l) (r : RefK) :
    (Instr.lookup 55 (.map (some m)) (.agg #[.int .i64 r.1.1, .int .u32 r.1.2]) true).run Try.prog w = .ok (.tuple #[.int .u64 ((lkp l r).getD w0).1, .bool (lkp l r).isSome]) w := by
  have := h.lookup refKey Try.underlying55 zeroWord r true
  cases ho : lkp l r <;> unfold lkp at ho <;> rw [ho] at this <;> exact this

theorem there_yes (b m : Nat) (tk : Int) (w : World) (h : w.heap[b]? = some (LBlk (some m) tk)) : Calls Try.prog 26 #[.pointer (some ⟨b, 0, none⟩)] w fun e w' => e = .returned (.bool true) ∧ w = w' := by
  obtain ⟨c0, c1, cf, cl⟩ := lfacts h
  have qT : ∀ (w : World) (r : Option Nat), (binOp .neq 55 (.map r) (.map none)).run Try.prog w = .ok (.bool (!r.isNone)) w := fun w r => run_neq_map_nil w _ _ _ r Try.underlying55
  go_enter Try.func26, Try.ntmps26
  go_wp2
  go_ret
  exact ⟨rfl, rfl⟩
theorem there_nil (w : World) : Calls Try.prog 26 #[.pointer none] w fun e w' => e = .returned (.bool false) ∧ w = w' := by
  have qT : ∀ (w : World) (r : Option Nat), (binOp .neq 55 (.map r) (.map none)).run Try.prog w = .ok (.bool (!r.isNone)) w := fun w r => run_neq_map_nil w _ _ _ r Try.underlying55
  go_enter Try.func26, Try.ntmps26
  go_wp2
  go_ret
  exact ⟨rfl, rfl⟩
theorem there_empty (b : Nat) (tk : Int) (w : World) (h : w.heap[b]? = some (LBlk none tk)) : Calls Try.prog 26 #[.pointer (some ⟨b, 0, none⟩)] w fun e w' => e = .returned (.bool false) ∧ w = w' := by
  obtain ⟨c0, c1, cf, cl⟩ := lfacts h
  have qT : ∀ (w : World) (r : Option Nat), (binOp .neq 55 (.map r) (.map none)).run Try.prog w = .ok (.bool (!r.isNone)) w := fun w r => run_neq_map_nil w _ _ _ r Try.underlying55
  go_enter Try.func26, Try.ntmps26
  go_wp2
  go_ret
  exact ⟨rfl, rfl⟩

section
variable {w : World} {b m : Nat} {l : List (RefK × Wd)} {tk : Int}
theorem len_at (h : LocksAt w b m l tk) : Calls Try.prog 24 #[.pointer (some ⟨b, 0, none⟩)] w fun e w' => e = .returned (.int .i64 l.length) ∧ w = w' := by
  have h1 := h.1
  have h2 := h.2
  have HT := hid (there_yes b m tk w h.1)
  clear h
  obtain ⟨c0, c1, cf, cl⟩ := lfacts h1
  go_enter Try.func24, Try.ntmps24
  go_wp2_with (first | (go_at_call 26; refine HT.out.mono ?_; rintro e w' ⟨rfl, rfl⟩) | (at_len; refine wpList_len_map rfl _ _ rfl Try.underlying55 rfl h2 ?_))
  go_ret
  exact ⟨rfl, rfl⟩
theorem taken_at (h : LocksAt w b m l tk) : Calls Try.prog 19 #[.pointer (some ⟨b, 0, none⟩)] w fun e w' => e = .returned (.int .i64 tk) ∧ w = w' := by
  have h1 := h.1
  have HT := hid (there_yes b m tk w h.1)
  clear h
  obtain ⟨c0, c1, cf, cl⟩ := lfacts h1
  go_enter Try.func19, Try.ntmps19
  go_wp2_with (first | (go_at_call 26; refine HT.out.mono ?_; rintro e w' ⟨rfl, rfl⟩))
  go_ret
  exact ⟨rfl, rfl⟩

/-- What stands where a Ref's cell has been made. -/
theorem boxed (h : LocksAt w b m l tk) (r : RefK) : LocksAt (w.alloc (.cells #[.int .i64 r.1.1, .int .u32 r.1.2] 30)) b m l tk ∧ (w.alloc (.cells #[.int .i64 r.1.1, .int .u32 r.1.2] 30)).heap[w.heap.size]? = some (.cells #[.int .i64 r.1.1, .int .u32 r.1.2] 30) := ⟨h.alloc _, heap_new _ _⟩

theorem is_at (h : LocksAt w b m l tk) (r : RefK) (x : Wd) : Calls Try.prog 36 #[.pointer (some ⟨b, 0, none⟩), .agg #[.int .i64 r.1.1, .int .u32 r.1.2], .int .u64 x.1] w fun e w' => e = .returned (.bool (decide (lkp l r = some x))) ∧ Below w.heap.size w w' := by
  obtain ⟨hA, hN⟩ := boxed h r
  obtain ⟨c0, c1, cf, cl⟩ := lfacts hA.1
  have hL : ∀ n, (Instr.lookup 55 (.map (some m)) (.agg #[.int .i64 r.1.1, .int .u32 r.1.2]) true).run Try.prog ((w.alloc (.cells #[.int .i64 r.1.1, .int .u32 r.1.2] 30)).drewN n) = .ok (.tuple #[.int .u64 ((lkp l r).getD w0).1, .bool (lkp l r).isSome]) ((w.alloc (.cells #[.int .i64 r.1.1, .int .u32 r.1.2] 30)).drewN n) := fun n => lk_run (hA.2.same (by simp)) r
  clear h
  cases hl : lkp l r with
  | none =>
    rw [hl] at hL
    simp only [Option.getD_none, Option.isSome_none] at hL
    go_enter Try.func36, Try.ntmps36
    go_wp2
    go_quiet (fail)
    go_wp2
    go_ret
    refine ⟨?_, by (repeat (first | exact Below.refl _ _ | assumption | with_reducible refine Below.drew ?_ | with_reducible refine below_drewN ?_ | with_reducible refine Below.setCell ?_ (by first | (simp; done) | (simp; omega)) _ | with_reducible refine Below.alloc ?_ (by first | exact Nat.le_refl _ | (simp; done) | (simp; omega)) _))⟩
    simp
  | some y =>
    rw [hl] at hL
    simp only [Option.getD_some, Option.isSome_some] at hL
    go_enter Try.func36, Try.ntmps36
    go_wp2
    go_quiet (fail)
    go_wp2
    go_ret
    refine ⟨?_, by (repeat (first | exact Below.refl _ _ | assumption | with_reducible refine Below.drew ?_ | with_reducible refine below_drewN ?_ | with_reducible refine Below.setCell ?_ (by first | (simp; done) | (simp; omega)) _ | with_reducible refine Below.alloc ?_ (by first | exact Nat.le_refl _ | (simp; done) | (simp; omega)) _))⟩
    have e : (decide (some y = some x)) = (x.1 == y.1) := by
      rw [Bool.eq_iff_iff]
      simp only [decide_eq_true_eq, beq_iff_eq, Option.some.injEq]
      exact ⟨fun e => by rw [e], fun e => Subtype.ext e.symm⟩
    rw [e]; rfl

theorem check_at (h : LocksAt w b m l tk) (r : RefK) (x : Wd) : Calls Try.prog 18 #[.pointer (some ⟨b, 0, none⟩), .agg #[.int .i64 r.1.1, .int .u32 r.1.2], .int .u64 x.1] w fun e w' => e = .returned (.bool (decide (lkp l r = some x))) ∧ Below w.heap.size w w' := by
  obtain ⟨hA, hN⟩ := boxed h r
  have HA := hid hA
  have HN := hid hN
  have hlt := h.lt
  generalize hv : decide (lkp l r = some x) = v
  have HI := hid (fun (w1 : World) (h : LocksAt w1 b m l tk) => is_at h r x)
  rw [hv] at HI
  have HT := hid (fun (w1 : World) (h : LocksAt w1 b m l tk) => there_yes b m tk w1 h.1)
  clear h hA hN hv
  go_enter Try.func18, Try.ntmps18
  go_wp2
  refine wp_region_seq 11 (fun w1 => Below ((w.alloc (.cells #[.int .i64 r.1.1, .int .u32 r.1.2] 30))).heap.size ((w.alloc (.cells #[.int .i64 r.1.1, .int .u32 r.1.2] 30))) w1) (by kernel_rfl) (by kernel_rfl) (by kernel_rfl) ⟨rfl, rfl, rfl, Nat.le_refl _, fun _ _ => rfl⟩ ?_
  dsimp only [List.take]
  iterate 11
    refine Seq.cons (a' := ?_) ?_ ?_ ?_
    rotate_left
    ·
      intro w1 hw1
      have hP := hid (HA.out.keep hw1)
      have k0 := blk_below HN.out hw1 (by simp)
      have n0 := cell_of k0 0
      have n1 := cell_of k0 1
      have k1 := cell_of hP.out.1 0
      clear k0
      go_wp2_with (first | (go_at_call 26; refine (HT.out _ hP.out).mono ?_; rintro e w' ⟨rfl, rfl⟩) | (go_at_call 36; refine (HI.out _ hP.out).mono ?_; rintro e w' ⟨rfl, hb⟩))
      refine ⟨?_, by first | assumption | (simpa using below_chain hw1 hb hw1.size)⟩
      exact rfl
    · kernel_rfl
  refine SeqI.nil ?_
  intro _ w1 _ hw1
  dsimp only [List.drop]
  go_wp2
  go_ret
  exact ⟨rfl, below_chain ((Below.refl _ _).alloc (Nat.le_refl _) _) hw1 (by simp)⟩

/-- What Begin tells. -/
def beg (l : List (RefK × Wd)) (r : RefK) : Int × Int := match lkp l r with
  | none => (0, 2)
  | some x => (x.1, if x.dead then 2 else if x.locked then 1 else 0)

theorem begin_at (h : LocksAt w b m l tk) (r : RefK) : Calls Try.prog 11 #[.pointer (some ⟨b, 0, none⟩), .agg #[.int .i64 r.1.1, .int .u32 r.1.2]] w fun e w' => e = .returned (.tuple #[.int .u64 (beg l r).1, .int .i64 (beg l r).2]) ∧ Below w.heap.size w w' := by
  obtain ⟨hA, hN⟩ := boxed h r
  obtain ⟨c0, c1, cf, cl⟩ := lfacts hA.1
  have hL : ∀ n, (Instr.lookup 55 (.map (some m)) (.agg #[.int .i64 r.1.1, .int .u32 r.1.2]) true).run Try.prog ((w.alloc (.cells #[.int .i64 r.1.1, .int .u32 r.1.2] 30)).drewN n) = .ok (.tuple #[.int .u64 ((lkp l r).getD w0).1, .bool (lkp l r).isSome]) ((w.alloc (.cells #[.int .i64 r.1.1, .int .u32 r.1.2] 30)).drewN n) := fun n => lk_run (hA.2.same (by simp)) r
  have HT := hid (there_yes b m tk _ hA.1)
  clear h
  unfold beg
  cases hl : lkp l r with
  | none =>
    rw [hl] at hL
    simp only [Option.getD_none, Option.isSome_none] at hL
    go_enter Try.func11, Try.ntmps11
    go_wp2_with (go_at_call 26; refine HT.out.mono ?_; rintro e w' ⟨rfl, rfl⟩)
    go_quiet (fail)
    go_wp2
    go_ret2
    exact ⟨rfl, by (repeat (first | exact Below.refl _ _ | assumption | with_reducible refine Below.drew ?_ | with_reducible refine below_drewN ?_ | with_reducible refine Below.setCell ?_ (by first | (simp; done) | (simp; omega)) _ | with_reducible refine Below.alloc ?_ (by first | exact Nat.le_refl _ | (simp; done) | (simp; omega)) _))⟩
  | some y =>
    rw [hl] at hL
    simp only [Option.getD_some, Option.isSome_some] at hL
    have HD := hid (fun w => Dead_any y w)
    have HL := hid (fun w => Locked_any y w)
    cases hd : y.dead <;> cases hk : y.locked
    all_goals
      rw [hd] at HD
      rw [hk] at HL
      go_enter Try.func11, Try.ntmps11
      go_wp2_with (go_at_call 26; refine HT.out.mono ?_; rintro e w' ⟨rfl, rfl⟩)
      go_quiet (fail)
      go_wp2_with (first | (go_at_call 27; refine (HD.out _).mono ?_; rintro e w1 ⟨rfl, hb1⟩) | (go_at_call 28; refine (HL.out _).mono ?_; rintro e w2 ⟨rfl, hb2⟩))
      all_goals go_ret2
      all_goals refine ⟨rfl, ?_⟩
      all_goals have hB1 : Below w.heap.size w w1 := below_chain (below_drewN (n := nq) ((Below.refl _ _).alloc (Nat.le_refl _) _)) hb1 (by simp)
      all_goals first | exact below_chain hB1 hb2 hB1.size | exact hB1
end
end Go.Proofs.Ytofkodfdgbjboaa
