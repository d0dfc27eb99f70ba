/- Locks in memory: New, Add, Gone, Lock, Drop, Done, Kill. -/
import Derived.Test.YtgdmfledhhoedaaKT3
import Derived.Test.YtgdmfledhhoedaaAnc
namespace Go.Proofs.Ytgdmfledhhoedaa.K
set_option maxRecDepth 8000
open Go.ChangeShapes Go.WideShapes Go.ChangeAt Go.RowKit Go.Burg
open Go.Burg.Lk

theorem new_at (w : World) : Calls Try.prog 51 #[] w fun e w' => ∃ b m, e = .returned (.pointer (some ⟨b, 0, none⟩)) ∧ LocksAt w' b m [] 0 ∧ w.heap.size ≤ b ∧ w.heap.size ≤ m ∧ Below w.heap.size w w' := by
  have hmm := @run_makeMap Try.prog
  go_enter Try.func51, Try.ntmps51
  go_wp2
  go_ret
  refine ⟨w.heap.size + 1, w.heap.size, rfl, ⟨?_, ?_⟩, by omega, by omega, by (repeat (first | exact Below.refl _ _ | assumption | with_reducible refine Below.drew ?_ | with_reducible refine below_drewN ?_ | with_reducible refine Below.setCell ?_ (by first | (simp; done) | (simp; omega)) _ | with_reducible refine Below.alloc ?_ (by first | exact Nat.le_refl _ | (simp; done) | (simp; omega)) _))⟩
  · simpa [LBlk] using heap_new (w.alloc (.map #[] 0)) (LBlk (some w.heap.size) 0)
  · exact MapOf.alloc ⟨#[], 0, heap_new _ _, by simp, by simp, by simp⟩ _

/-- May a Ref be added? -/
def okRef (r : RefK) : Bool := decide (0 ≤ r.1.1) && decide (r.1.1 < 4096) && decide (1 ≤ r.1.2)
/-- What Add makes: the error, the words. -/
def addL (l : List (RefK × Wd)) (r : RefK) : Int × List (RefK × Wd) := if okRef r then (if (lkp l r).isSome then (8, l) else (0, l ++ [(r, w0)])) else (2, l)
def goneL (l : List (RefK × Wd)) (r : RefK) : Int × List (RefK × Wd) := if (lkp l r).isSome then (0, delKV l r) else (5, l)

section
variable {w : World} {b m : Nat} {l : List (RefK × Wd)} {tk : Int}
theorem set_new {r : RefK} (h : (lkp l r).isSome = false) : setKV l r w0 = l ++ [(r, w0)] := by
  unfold lkp at h
  unfold setKV
  rw [h]
  rfl

theorem add_at (h : LocksAt w b m l tk) (r : RefK) : Calls Try.prog 56 #[.pointer (some ⟨b, 0, none⟩), .agg #[.int .i64 r.1.1, .int .u32 r.1.2]] w fun e w' => e = .returned (.int .i64 (addL l r).1) ∧ MapOf refV wV w' m (addL l r).2 ∧ Mod (· = m) w w' := by
  obtain ⟨hA, hN⟩ := boxed h r
  obtain ⟨c0, c1, cf, cl⟩ := lfacts hA.1
  have hL : ∀ n, (Instr.lookup 138 (.map (some m)) (.agg #[.int .i64 r.1.1, .int .u32 r.1.2]) true).run Try.prog ((w.alloc (.cells #[.int .i64 r.1.1, .int .u32 r.1.2] 36)).drewN n) = .ok (.tuple #[.int .u64 ((lkp l r).getD w0).1, .bool (lkp l r).isSome]) ((w.alloc (.cells #[.int .i64 r.1.1, .int .u32 r.1.2] 36)).drewN n) := fun n => lk_run (hA.2.same (by simp)) r
  have HT := hid (there_yes b m tk _ hA.1)
  have HL := hid h
  have hlt := h.lt
  have hne := h.ne
  clear h
  unfold addL okRef
  generalize hs : (lkp l r).isSome = s at hL
  generalize (lkp l r).getD w0 = y at hL
  cases h1 : decide (0 ≤ r.1.1)
  · have g1 : decide (r.1.1 < 0) = true := by simp at h1 ⊢; omega
    simp only [Bool.false_and, Bool.false_eq_true, if_false]
    clear hs h1
    go_enter Try.func56, Try.ntmps56
    go_wp2_with (go_at_call 66; refine HT.out.mono ?_; rintro e w' ⟨rfl, rfl⟩)
    go_quiet (fail)
    go_wp2
    go_ret
    exact ⟨rfl, HL.out.2.below (by (repeat (first | exact Below.refl _ _ | assumption | with_reducible refine Below.drew ?_ | with_reducible refine below_drewN ?_ | with_reducible refine Below.setCell ?_ (by first | (simp; done) | (simp; omega)) _ | with_reducible refine Below.alloc ?_ (by first | exact Nat.le_refl _ | (simp; done) | (simp; omega)) _))) hlt.2, Mod.ofBelow (by (repeat (first | exact Below.refl _ _ | assumption | with_reducible refine Below.drew ?_ | with_reducible refine below_drewN ?_ | with_reducible refine Below.setCell ?_ (by first | (simp; done) | (simp; omega)) _ | with_reducible refine Below.alloc ?_ (by first | exact Nat.le_refl _ | (simp; done) | (simp; omega)) _)))⟩
  have g1 : decide (r.1.1 < 0) = false := by simp at h1 ⊢; omega
  cases h2 : decide (r.1.1 < 4096)
  · have g2 : decide (r.1.1 ≥ 4096) = true := by simp at h2 ⊢; omega
    simp only [Bool.and_false, Bool.false_and, Bool.false_eq_true, if_false]
    clear hs h1 h2
    go_enter Try.func56, Try.ntmps56
    go_wp2_with (go_at_call 66; refine HT.out.mono ?_; rintro e w' ⟨rfl, rfl⟩)
    go_quiet (fail)
    go_wp2
    go_ret
    exact ⟨rfl, HL.out.2.below (by (repeat (first | exact Below.refl _ _ | assumption | with_reducible refine Below.drew ?_ | with_reducible refine below_drewN ?_ | with_reducible refine Below.setCell ?_ (by first | (simp; done) | (simp; omega)) _ | with_reducible refine Below.alloc ?_ (by first | exact Nat.le_refl _ | (simp; done) | (simp; omega)) _))) hlt.2, Mod.ofBelow (by (repeat (first | exact Below.refl _ _ | assumption | with_reducible refine Below.drew ?_ | with_reducible refine below_drewN ?_ | with_reducible refine Below.setCell ?_ (by first | (simp; done) | (simp; omega)) _ | with_reducible refine Below.alloc ?_ (by first | exact Nat.le_refl _ | (simp; done) | (simp; omega)) _)))⟩
  have g2 : decide (r.1.1 ≥ 4096) = false := by simp at h2 ⊢; omega
  cases h3 : decide (1 ≤ r.1.2)
  · have g3 : decide (r.1.2 < 1) = true := by simp at h3 ⊢; omega
    simp only [Bool.and_false, Bool.false_eq_true, if_false]
    clear hs h1 h2 h3
    go_enter Try.func56, Try.ntmps56
    go_wp2_with (go_at_call 66; refine HT.out.mono ?_; rintro e w' ⟨rfl, rfl⟩)
    go_quiet (fail)
    go_wp2
    go_ret
    exact ⟨rfl, HL.out.2.below (by (repeat (first | exact Below.refl _ _ | assumption | with_reducible refine Below.drew ?_ | with_reducible refine below_drewN ?_ | with_reducible refine Below.setCell ?_ (by first | (simp; done) | (simp; omega)) _ | with_reducible refine Below.alloc ?_ (by first | exact Nat.le_refl _ | (simp; done) | (simp; omega)) _))) hlt.2, Mod.ofBelow (by (repeat (first | exact Below.refl _ _ | assumption | with_reducible refine Below.drew ?_ | with_reducible refine below_drewN ?_ | with_reducible refine Below.setCell ?_ (by first | (simp; done) | (simp; omega)) _ | with_reducible refine Below.alloc ?_ (by first | exact Nat.le_refl _ | (simp; done) | (simp; omega)) _)))⟩
  have g3 : decide (r.1.2 < 1) = false := by simp at h3 ⊢; omega
  simp only [Bool.and_true, if_true]
  clear h1 h2 h3
  cases s
  · have HS := hid (set_new hs)
    clear hs
    simp only [Bool.false_eq_true, if_false]
    go_enter Try.func56, Try.ntmps56
    go_wp2_with (go_at_call 66; refine HT.out.mono ?_; rintro e w' ⟨rfl, rfl⟩)
    go_quiet (fail)
    go_wp2
    have hB : Below w.heap.size w (((w.alloc (.cells #[.int .i64 r.1.1, .int .u32 r.1.2] 36)).drewN nq)) := by (repeat (first | exact Below.refl _ _ | assumption | with_reducible refine Below.drew ?_ | with_reducible refine below_drewN ?_ | with_reducible refine Below.setCell ?_ (by first | (simp; done) | (simp; omega)) _ | with_reducible refine Below.alloc ?_ (by first | exact Nat.le_refl _ | (simp; done) | (simp; omega)) _))
    have hN2 : (((w.alloc (.cells #[.int .i64 r.1.1, .int .u32 r.1.2] 36)).drewN nq)).heap[w.heap.size]? = some (.cells #[.int .i64 r.1.1, .int .u32 r.1.2] 36) := hN
    have HN := hid hN2
    have HP := hid (HL.out.keep hB)
    have HB := hid hB
    have hz2 : w.heap.size < (((w.alloc (.cells #[.int .i64 r.1.1, .int .u32 r.1.2] 36)).drewN nq)).heap.size := lt_of_block HN.out
    clear hL hA hN hN2 c0 c1 cf cl hB HT
    generalize ((w.alloc (.cells #[.int .i64 r.1.1, .int .u32 r.1.2] 36)).drewN nq) = w2 at *
    refine wp_region_seqI 7 (Turn 6 (fun w1 => Below w2.heap.size w2 w1) (fun w1 => MapOf refV wV w1 m (setKV l r w0) ∧ Mod (· = m) w2 w1)) (by kernel_rfl) (by kernel_rfl) (by kernel_rfl) (Turn.start ⟨rfl, rfl, rfl, Nat.le_refl _, fun _ _ => rfl⟩) ?_
    dsimp only [List.take]
    iterate 6
      refine Seq.calm (a' := ?_) (by decide) ?_ ?_ ?_
      rotate_left
      ·
        intro w1 hw1
        have hk : w1.heap[b]? = some (LBlk (some m) tk) ∧ w1.heap[w.heap.size]? = some (.cells #[.int .i64 r.1.1, .int .u32 r.1.2] 36) := by
          rcases hw1 with h | h
          · exact ⟨blk_below HP.out.1 h HP.out.lt.1, blk_below HN.out h hz2⟩
          · exact ⟨(h.2.block _ HP.out.lt.1 hne).trans HP.out.1, (h.2.block _ hz2 (by omega)).trans HN.out⟩
        have n0 := cell_of hk.2 0
        have n1 := cell_of hk.2 1
        obtain ⟨c0, c1, cf, cl⟩ := lfacts hk.1
        clear hk hw1
        go_wp2_with (fail)
        refine ⟨?_, id, id⟩
        exact rfl
      · kernel_rfl
    refine Seq.turn (a' := ?_) ?_ ?_ ?_
    rotate_left
    ·
      intro w1 hw1
      have hM1 := HP.out.2.below hw1 HP.out.lt.2
      have HB1 := hid hw1
      clear hw1
      refine wpList_store_map rfl _ _ _ _ rfl refKey Try.underlying138 rfl r rfl w0 rfl hM1 ?_
      intro w3 hM3 hX3
      refine ⟨?_, hM3, (Mod.ofBelow (S := (· = m)) HB1.out).trans hX3 (fun _ _ h => h)⟩
      exact rfl
    · kernel_rfl
    iterate 0
      refine Seq.calm (a' := ?_) (by decide) ?_ ?_ ?_
      rotate_left
      ·
        intro w1 hw1
        have hk : w1.heap[b]? = some (LBlk (some m) tk) ∧ w1.heap[w.heap.size]? = some (.cells #[.int .i64 r.1.1, .int .u32 r.1.2] 36) := by
          rcases hw1 with h | h
          · exact ⟨blk_below HP.out.1 h HP.out.lt.1, blk_below HN.out h hz2⟩
          · exact ⟨(h.2.block _ HP.out.lt.1 hne).trans HP.out.1, (h.2.block _ hz2 (by omega)).trans HN.out⟩
        have n0 := cell_of hk.2 0
        have n1 := cell_of hk.2 1
        obtain ⟨c0, c1, cf, cl⟩ := lfacts hk.1
        clear hk hw1
        go_wp2_with (fail)
        refine ⟨?_, id, id⟩
        exact rfl
      · kernel_rfl
    refine SeqI.nil ?_
    intro D w1 hD hI
    replace hI := hI.done (hD 6 (by omega))
    clear hD
    dsimp only [List.drop]
    go_wp2_with fail
    go_ret
    rw [HS.out] at hI
    exact ⟨rfl, hI.1, (Mod.ofBelow (S := (· = m)) HB.out).trans hI.2 (fun _ _ h => h)⟩
  · clear hs
    simp only [if_true]
    go_enter Try.func56, Try.ntmps56
    go_wp2_with (go_at_call 66; refine HT.out.mono ?_; rintro e w' ⟨rfl, rfl⟩)
    go_quiet (fail)
    go_wp2
    go_ret
    exact ⟨rfl, HL.out.2.below (by (repeat (first | exact Below.refl _ _ | assumption | with_reducible refine Below.drew ?_ | with_reducible refine below_drewN ?_ | with_reducible refine Below.setCell ?_ (by first | (simp; done) | (simp; omega)) _ | with_reducible refine Below.alloc ?_ (by first | exact Nat.le_refl _ | (simp; done) | (simp; omega)) _))) hlt.2, Mod.ofBelow (by (repeat (first | exact Below.refl _ _ | assumption | with_reducible refine Below.drew ?_ | with_reducible refine below_drewN ?_ | with_reducible refine Below.setCell ?_ (by first | (simp; done) | (simp; omega)) _ | with_reducible refine Below.alloc ?_ (by first | exact Nat.le_refl _ | (simp; done) | (simp; omega)) _)))⟩

theorem gone_at (h : LocksAt w b m l tk) (r : RefK) : Calls Try.prog 58 #[.pointer (some ⟨b, 0, none⟩), .agg #[.int .i64 r.1.1, .int .u32 r.1.2]] w fun e w' => e = .returned (.int .i64 (goneL l r).1) ∧ MapOf refV wV w' m (goneL l r).2 ∧ Mod (· = m) w w' := by
  obtain ⟨hA, hN⟩ := boxed h r
  obtain ⟨c0, c1, cf, cl⟩ := lfacts hA.1
  have hL : ∀ n, (Instr.lookup 138 (.map (some m)) (.agg #[.int .i64 r.1.1, .int .u32 r.1.2]) true).run Try.prog ((w.alloc (.cells #[.int .i64 r.1.1, .int .u32 r.1.2] 36)).drewN n) = .ok (.tuple #[.int .u64 ((lkp l r).getD w0).1, .bool (lkp l r).isSome]) ((w.alloc (.cells #[.int .i64 r.1.1, .int .u32 r.1.2] 36)).drewN n) := fun n => lk_run (hA.2.same (by simp)) r
  have HT := hid (there_yes b m tk _ hA.1)
  have HL := hid h
  have hlt := h.lt
  have hne := h.ne
  clear h
  unfold goneL
  generalize hs : (lkp l r).isSome = s at hL
  generalize (lkp l r).getD w0 = y at hL
  clear hs
  cases s
  · simp only [Bool.false_eq_true, if_false]
    go_enter Try.func58, Try.ntmps58
    go_wp2_with (go_at_call 66; refine HT.out.mono ?_; rintro e w' ⟨rfl, rfl⟩)
    go_quiet (fail)
    go_wp2
    go_ret
    exact ⟨rfl, HL.out.2.below (by (repeat (first | exact Below.refl _ _ | assumption | with_reducible refine Below.drew ?_ | with_reducible refine below_drewN ?_ | with_reducible refine Below.setCell ?_ (by first | (simp; done) | (simp; omega)) _ | with_reducible refine Below.alloc ?_ (by first | exact Nat.le_refl _ | (simp; done) | (simp; omega)) _))) hlt.2, Mod.ofBelow (by (repeat (first | exact Below.refl _ _ | assumption | with_reducible refine Below.drew ?_ | with_reducible refine below_drewN ?_ | with_reducible refine Below.setCell ?_ (by first | (simp; done) | (simp; omega)) _ | with_reducible refine Below.alloc ?_ (by first | exact Nat.le_refl _ | (simp; done) | (simp; omega)) _)))⟩
  · simp only [if_true]
    go_enter Try.func58, Try.ntmps58
    go_wp2_with (go_at_call 66; refine HT.out.mono ?_; rintro e w' ⟨rfl, rfl⟩)
    go_quiet (fail)
    go_wp2
    have hB : Below w.heap.size w (((w.alloc (.cells #[.int .i64 r.1.1, .int .u32 r.1.2] 36)).drewN nq)) := by (repeat (first | exact Below.refl _ _ | assumption | with_reducible refine Below.drew ?_ | with_reducible refine below_drewN ?_ | with_reducible refine Below.setCell ?_ (by first | (simp; done) | (simp; omega)) _ | with_reducible refine Below.alloc ?_ (by first | exact Nat.le_refl _ | (simp; done) | (simp; omega)) _))
    have hN2 : (((w.alloc (.cells #[.int .i64 r.1.1, .int .u32 r.1.2] 36)).drewN nq)).heap[w.heap.size]? = some (.cells #[.int .i64 r.1.1, .int .u32 r.1.2] 36) := hN
    have HN := hid hN2
    have HP := hid (HL.out.keep hB)
    have HB := hid hB
    have hz2 : w.heap.size < (((w.alloc (.cells #[.int .i64 r.1.1, .int .u32 r.1.2] 36)).drewN nq)).heap.size := lt_of_block HN.out
    clear hL hA hN hN2 c0 c1 cf cl hB HT
    generalize ((w.alloc (.cells #[.int .i64 r.1.1, .int .u32 r.1.2] 36)).drewN nq) = w2 at *
    refine wp_region_seqI 7 (Turn 6 (fun w1 => Below w2.heap.size w2 w1) (fun w1 => MapOf refV wV w1 m (delKV l r) ∧ Mod (· = m) w2 w1)) (by kernel_rfl) (by kernel_rfl) (by kernel_rfl) (Turn.start ⟨rfl, rfl, rfl, Nat.le_refl _, fun _ _ => rfl⟩) ?_
    dsimp only [List.take]
    iterate 6
      refine Seq.calm (a' := ?_) (by decide) ?_ ?_ ?_
      rotate_left
      ·
        intro w1 hw1
        have hk : w1.heap[b]? = some (LBlk (some m) tk) ∧ w1.heap[w.heap.size]? = some (.cells #[.int .i64 r.1.1, .int .u32 r.1.2] 36) := by
          rcases hw1 with h | h
          · exact ⟨blk_below HP.out.1 h HP.out.lt.1, blk_below HN.out h hz2⟩
          · exact ⟨(h.2.block _ HP.out.lt.1 hne).trans HP.out.1, (h.2.block _ hz2 (by omega)).trans HN.out⟩
        have n0 := cell_of hk.2 0
        have n1 := cell_of hk.2 1
        obtain ⟨c0, c1, cf, cl⟩ := lfacts hk.1
        clear hk hw1
        go_wp2_with (fail)
        refine ⟨?_, id, id⟩
        exact rfl
      · kernel_rfl
    refine Seq.turn (a' := ?_) ?_ ?_ ?_
    rotate_left
    ·
      intro w1 hw1
      have hM1 := HP.out.2.below hw1 HP.out.lt.2
      have HB1 := hid hw1
      clear hw1
      refine wpList_delete_map rfl _ _ _ _ rfl refKey Try.underlying138 rfl r rfl hM1 ?_
      intro w3 hM3 hX3
      refine ⟨?_, hM3, (Mod.ofBelow (S := (· = m)) HB1.out).trans hX3 (fun _ _ h => h)⟩
      exact rfl
    · kernel_rfl
    iterate 0
      refine Seq.calm (a' := ?_) (by decide) ?_ ?_ ?_
      rotate_left
      ·
        intro w1 hw1
        have hk : w1.heap[b]? = some (LBlk (some m) tk) ∧ w1.heap[w.heap.size]? = some (.cells #[.int .i64 r.1.1, .int .u32 r.1.2] 36) := by
          rcases hw1 with h | h
          · exact ⟨blk_below HP.out.1 h HP.out.lt.1, blk_below HN.out h hz2⟩
          · exact ⟨(h.2.block _ HP.out.lt.1 hne).trans HP.out.1, (h.2.block _ hz2 (by omega)).trans HN.out⟩
        have n0 := cell_of hk.2 0
        have n1 := cell_of hk.2 1
        obtain ⟨c0, c1, cf, cl⟩ := lfacts hk.1
        clear hk hw1
        go_wp2_with (fail)
        refine ⟨?_, id, id⟩
        exact rfl
      · kernel_rfl
    refine SeqI.nil ?_
    intro D w1 hD hI
    replace hI := hI.done (hD 6 (by omega))
    clear hD
    dsimp only [List.drop]
    go_wp2_with fail
    go_ret
    exact ⟨rfl, hI.1, (Mod.ofBelow (S := (· = m)) HB.out).trans hI.2 (fun _ _ h => h)⟩
end
end Go.Proofs.Ytgdmfledhhoedaa.K
