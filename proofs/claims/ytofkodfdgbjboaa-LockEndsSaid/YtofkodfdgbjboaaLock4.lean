/- Locks in memory: what turns a word. -/
import Derived.Test.YtofkodfdgbjboaaLock3
namespace Go.Burg.Lk
/-- A turner that accepts a single word. -/
def Wd.only (y x : Wd) : Wd × Bool := if x = y then x.lock else (x, false)
end Go.Burg.Lk
namespace Go.Proofs.Ytofkodfdgbjboaa
open Go.ChangeShapes Go.WideShapes Go.ChangeAt Go.RowKit Go.Burg
open Go.Burg.Lk

theorem only1_any (c d : Nat) (y x : Wd) (w : World) (hc : w.heap[c]? = some (.cells #[.int .u64 y.1] 24)) (hd : w.heap[d]? = some (.cells #[.func (.func 31) #[] #[]] 65)) :
    Calls Try.prog 48 #[.int .u64 x.1, .pointer (some ⟨c, 0, none⟩), .pointer (some ⟨d, 0, none⟩)] w fun e w' => e = .returned (.tuple #[wV (Wd.only y x).1, .bool (Wd.only y x).2]) ∧ Below w.heap.size w w' := by
  have c0 := cell_of hc 0
  have d0 := cell_of hd 0
  unfold Wd.only
  by_cases he : x = y
  · subst he
    rw [if_pos rfl]
    have HL := hid (vLock_any x w)
    have hq : (x.1 != x.1) = false := by simp
    go_enter Try.func48, Try.ntmps48
    go_wp2_with (go_at_call 31; refine HL.out.mono ?_; rintro e w1 ⟨rfl, hb1⟩)
    go_ret2
    exact ⟨rfl, hb1⟩
  · rw [if_neg he]
    have hq : (x.1 != y.1) = true := by simpa using fun e => he (Subtype.ext e)
    go_enter Try.func48, Try.ntmps48
    go_wp2_with fail
    go_ret2
    exact ⟨rfl, Below.refl _ _⟩

theorem only_any (y : Wd) (w : World) : Calls Try.prog 30 #[.int .u64 y.1, .func (.func 31) #[] #[]] w fun e w' => e = .returned (.func (.func 48) #[] #[.pointer (some ⟨w.heap.size, 0, none⟩), .pointer (some ⟨w.heap.size + 1, 0, none⟩)]) ∧
    w'.heap[w.heap.size]? = some (.cells #[.int .u64 y.1] 24) ∧ w'.heap[w.heap.size + 1]? = some (.cells #[.func (.func 31) #[] #[]] 65) ∧ Below w.heap.size w w' := by
  have hmf : ∀ (fn : Fn) (first cap : Array Value) (w : World), (Instr.makeFunc fn first cap).run Try.prog w = .ok (.func fn first cap) w := fun _ _ _ _ => rfl
  go_enter Try.func30, Try.ntmps30
  go_wp2_with fail
  go_ret
  refine ⟨rfl, ?_, ?_, by (repeat (first | exact Below.refl _ _ | assumption | with_reducible refine Below.drew ?_ | with_reducible refine below_drewN ?_ | with_reducible refine Below.setCell ?_ (by first | (simp; done) | (simp; omega)) _ | with_reducible refine Below.alloc ?_ (by first | exact Nat.le_refl _ | (simp; done) | (simp; omega)) _))⟩
  · exact blk_alloc (heap_new _ _)
  · have := heap_new (w.alloc (.cells #[.int .u64 y.1] 24)) (.cells #[.func (.func 31) #[] #[]] 65)
    simpa using this

/-- What becomes of the words where one is turned: the error, the words. -/
def turnL (l : List (RefK × Wd)) (r : RefK) (g : Wd → Wd × Bool) : Int × List (RefK × Wd) := match lkp l r with
  | none => (5, l)
  | some x => if (g x).2 then (0, setKV l r (g x).1) else (15, l)

section
variable {w : World} {b m : Nat} {l : List (RefK × Wd)} {tk : Int}



theorem turn_drop (h : LocksAt w b m l tk) (r : RefK) : Calls Try.prog 29 #[.pointer (some ⟨b, 0, none⟩), .agg #[.int .i64 r.1.1, .int .u32 r.1.2], .func (.func 33) #[] #[]] w fun e w' => e = .returned (.int .i64 (turnL l r Wd.drop).1) ∧ MapOf refV wV w' m (turnL l r Wd.drop).2 ∧ Mod (· = m) w w' := by
  obtain ⟨hA, hN⟩ := boxed h r
  obtain ⟨c0, c1, cf, cl⟩ := lfacts hA.1
  have hL : ∀ n, (Instr.lookup 55 (.map (some m)) (.agg #[.int .i64 r.1.1, .int .u32 r.1.2]) true).run Try.prog ((w.alloc (.cells #[.int .i64 r.1.1, .int .u32 r.1.2] 30)).drewN n) = .ok (.tuple #[.int .u64 ((lkp l r).getD w0).1, .bool (lkp l r).isSome]) ((w.alloc (.cells #[.int .i64 r.1.1, .int .u32 r.1.2] 30)).drewN n) := fun n => lk_run (hA.2.same (by simp)) r
  skip
  unfold turnL
  have HL := hid h
  cases hl : lkp l r with
  | none =>
    rw [hl] at hL
    simp only [Option.getD_none, Option.isSome_none] at hL
    go_enter Try.func29, Try.ntmps29
    go_wp2
    go_quiet (fail)
    go_wp2
    go_ret
    refine ⟨rfl, ?_, ?_⟩
    · exact hA.2.same (by simp)
    · exact Mod.ofBelow (by (repeat (first | exact Below.refl _ _ | assumption | with_reducible refine Below.drew ?_ | with_reducible refine below_drewN ?_ | with_reducible refine Below.setCell ?_ (by first | (simp; done) | (simp; omega)) _ | with_reducible refine Below.alloc ?_ (by first | exact Nat.le_refl _ | (simp; done) | (simp; omega)) _)))
  | some y =>
    rw [hl] at hL
    simp only [Option.getD_some, Option.isSome_some] at hL
    have HG := hid (fun w1 => vDrop_any y w1)
    have hlt := h.lt
    have hne := h.ne
    simp only []
    generalize Wd.drop y = q at HG ⊢
    obtain ⟨y2, ok⟩ := q
    cases ok
    · go_enter Try.func29, Try.ntmps29
      go_wp2
      go_quiet (fail)
      go_wp2_with (go_at_call 33; refine (HG.out _).mono ?_; rintro e w2 ⟨rfl, hb2⟩)
      go_ret
      have hB : Below w.heap.size w w2 := below_chain (below_drewN (n := nq) ((Below.refl _ _).alloc (Nat.le_refl _) _)) hb2 (by simp)
      refine ⟨rfl, ?_, Mod.ofBelow hB⟩
      exact HL.out.2.below hB hlt.2
    · go_enter Try.func29, Try.ntmps29
      go_wp2
      go_quiet (fail)
      go_wp2_with (go_at_call 33; refine (HG.out _).mono ?_; rintro e w2 ⟨rfl, hb2⟩)
      have hB : Below w.heap.size w w2 := below_chain (below_drewN (n := nq) ((Below.refl _ _).alloc (Nat.le_refl _) _)) hb2 (by simp)
      have hN2 : ((w.alloc (.cells #[.int .i64 r.1.1, .int .u32 r.1.2] 30)).drewN nq).heap[w.heap.size]? = some (.cells #[.int .i64 r.1.1, .int .u32 r.1.2] 30) := hN
      have HN := hid (blk_below hN2 hb2 (by simp))
      have HP := hid (HL.out.keep hB)
      have HB := hid hB
      have hz2 : w.heap.size < w2.heap.size := lt_of_block HN.out
      clear hb2 hL hA hN hN2 c0 c1 cf cl hB
      refine wp_region_seqI 7 (Turn 6 (fun w1 => Below w2.heap.size w2 w1) (fun w1 => MapOf refV wV w1 m (setKV l r y2) ∧ Mod (· = m) w2 w1)) (by kernel_rfl) (by kernel_rfl) (by kernel_rfl) (Turn.start ⟨rfl, rfl, rfl, Nat.le_refl _, fun _ _ => rfl⟩) ?_
      dsimp only [List.take]
      iterate 6
        refine Seq.calm (a' := ?_) (by decide) ?_ ?_ ?_
        rotate_left
        ·
          intro w1 hw1
          have hk : w1.heap[b]? = some (LBlk (some m) tk) ∧ w1.heap[w.heap.size]? = some (.cells #[.int .i64 r.1.1, .int .u32 r.1.2] 30) := by
            rcases hw1 with h | h
            · exact ⟨blk_below HP.out.1 h HP.out.lt.1, blk_below HN.out h hz2⟩
            · exact ⟨(h.2.block _ HP.out.lt.1 hne).trans HP.out.1, (h.2.block _ hz2 (by omega)).trans HN.out⟩
          have n0 := cell_of hk.2 0
          have n1 := cell_of hk.2 1
          obtain ⟨c0, c1, cf, cl⟩ := lfacts hk.1
          clear hk hw1
          go_wp2_with (fail)
          refine ⟨?_, id, id⟩
          exact rfl
        · kernel_rfl
      refine Seq.turn (a' := ?_) ?_ ?_ ?_
      rotate_left
      ·
        intro w1 hw1
        have hM1 := HP.out.2.below hw1 HP.out.lt.2
        have HB1 := hid hw1
        clear hw1
        refine wpList_store_map rfl _ _ _ _ rfl refKey Try.underlying55 rfl r rfl y2 rfl hM1 ?_
        intro w3 hM3 hX3
        refine ⟨?_, hM3, (Mod.ofBelow (S := (· = m)) HB1.out).trans hX3 (fun _ _ h => h)⟩
        exact rfl
      · kernel_rfl
      iterate 0
        refine Seq.calm (a' := ?_) (by decide) ?_ ?_ ?_
        rotate_left
        ·
          intro w1 hw1
          have hk : w1.heap[b]? = some (LBlk (some m) tk) ∧ w1.heap[w.heap.size]? = some (.cells #[.int .i64 r.1.1, .int .u32 r.1.2] 30) := by
            rcases hw1 with h | h
            · exact ⟨blk_below HP.out.1 h HP.out.lt.1, blk_below HN.out h hz2⟩
            · exact ⟨(h.2.block _ HP.out.lt.1 hne).trans HP.out.1, (h.2.block _ hz2 (by omega)).trans HN.out⟩
          have n0 := cell_of hk.2 0
          have n1 := cell_of hk.2 1
          obtain ⟨c0, c1, cf, cl⟩ := lfacts hk.1
          clear hk hw1
          go_wp2_with (fail)
          refine ⟨?_, id, id⟩
          exact rfl
        · kernel_rfl
      refine SeqI.nil ?_
      intro D w1 hD hI
      replace hI := hI.done (hD 6 (by omega))
      clear hD
      dsimp only [List.drop]
      go_wp2_with fail
      go_ret
      exact ⟨rfl, hI.1, (Mod.ofBelow (S := (· = m)) HB.out).trans hI.2 (fun _ _ h => h)⟩
theorem turn_done (h : LocksAt w b m l tk) (r : RefK) : Calls Try.prog 29 #[.pointer (some ⟨b, 0, none⟩), .agg #[.int .i64 r.1.1, .int .u32 r.1.2], .func (.func 34) #[] #[]] w fun e w' => e = .returned (.int .i64 (turnL l r Wd.done).1) ∧ MapOf refV wV w' m (turnL l r Wd.done).2 ∧ Mod (· = m) w w' := by
  obtain ⟨hA, hN⟩ := boxed h r
  obtain ⟨c0, c1, cf, cl⟩ := lfacts hA.1
  have hL : ∀ n, (Instr.lookup 55 (.map (some m)) (.agg #[.int .i64 r.1.1, .int .u32 r.1.2]) true).run Try.prog ((w.alloc (.cells #[.int .i64 r.1.1, .int .u32 r.1.2] 30)).drewN n) = .ok (.tuple #[.int .u64 ((lkp l r).getD w0).1, .bool (lkp l r).isSome]) ((w.alloc (.cells #[.int .i64 r.1.1, .int .u32 r.1.2] 30)).drewN n) := fun n => lk_run (hA.2.same (by simp)) r
  skip
  unfold turnL
  have HL := hid h
  cases hl : lkp l r with
  | none =>
    rw [hl] at hL
    simp only [Option.getD_none, Option.isSome_none] at hL
    go_enter Try.func29, Try.ntmps29
    go_wp2
    go_quiet (fail)
    go_wp2
    go_ret
    refine ⟨rfl, ?_, ?_⟩
    · exact hA.2.same (by simp)
    · exact Mod.ofBelow (by (repeat (first | exact Below.refl _ _ | assumption | with_reducible refine Below.drew ?_ | with_reducible refine below_drewN ?_ | with_reducible refine Below.setCell ?_ (by first | (simp; done) | (simp; omega)) _ | with_reducible refine Below.alloc ?_ (by first | exact Nat.le_refl _ | (simp; done) | (simp; omega)) _)))
  | some y =>
    rw [hl] at hL
    simp only [Option.getD_some, Option.isSome_some] at hL
    have HG := hid (fun w1 => vDone_any y w1)
    have hlt := h.lt
    have hne := h.ne
    simp only []
    generalize Wd.done y = q at HG ⊢
    obtain ⟨y2, ok⟩ := q
    cases ok
    · go_enter Try.func29, Try.ntmps29
      go_wp2
      go_quiet (fail)
      go_wp2_with (go_at_call 34; refine (HG.out _).mono ?_; rintro e w2 ⟨rfl, hb2⟩)
      go_ret
      have hB : Below w.heap.size w w2 := below_chain (below_drewN (n := nq) ((Below.refl _ _).alloc (Nat.le_refl _) _)) hb2 (by simp)
      refine ⟨rfl, ?_, Mod.ofBelow hB⟩
      exact HL.out.2.below hB hlt.2
    · go_enter Try.func29, Try.ntmps29
      go_wp2
      go_quiet (fail)
      go_wp2_with (go_at_call 34; refine (HG.out _).mono ?_; rintro e w2 ⟨rfl, hb2⟩)
      have hB : Below w.heap.size w w2 := below_chain (below_drewN (n := nq) ((Below.refl _ _).alloc (Nat.le_refl _) _)) hb2 (by simp)
      have hN2 : ((w.alloc (.cells #[.int .i64 r.1.1, .int .u32 r.1.2] 30)).drewN nq).heap[w.heap.size]? = some (.cells #[.int .i64 r.1.1, .int .u32 r.1.2] 30) := hN
      have HN := hid (blk_below hN2 hb2 (by simp))
      have HP := hid (HL.out.keep hB)
      have HB := hid hB
      have hz2 : w.heap.size < w2.heap.size := lt_of_block HN.out
      clear hb2 hL hA hN hN2 c0 c1 cf cl hB
      refine wp_region_seqI 7 (Turn 6 (fun w1 => Below w2.heap.size w2 w1) (fun w1 => MapOf refV wV w1 m (setKV l r y2) ∧ Mod (· = m) w2 w1)) (by kernel_rfl) (by kernel_rfl) (by kernel_rfl) (Turn.start ⟨rfl, rfl, rfl, Nat.le_refl _, fun _ _ => rfl⟩) ?_
      dsimp only [List.take]
      iterate 6
        refine Seq.calm (a' := ?_) (by decide) ?_ ?_ ?_
        rotate_left
        ·
          intro w1 hw1
          have hk : w1.heap[b]? = some (LBlk (some m) tk) ∧ w1.heap[w.heap.size]? = some (.cells #[.int .i64 r.1.1, .int .u32 r.1.2] 30) := by
            rcases hw1 with h | h
            · exact ⟨blk_below HP.out.1 h HP.out.lt.1, blk_below HN.out h hz2⟩
            · exact ⟨(h.2.block _ HP.out.lt.1 hne).trans HP.out.1, (h.2.block _ hz2 (by omega)).trans HN.out⟩
          have n0 := cell_of hk.2 0
          have n1 := cell_of hk.2 1
          obtain ⟨c0, c1, cf, cl⟩ := lfacts hk.1
          clear hk hw1
          go_wp2_with (fail)
          refine ⟨?_, id, id⟩
          exact rfl
        · kernel_rfl
      refine Seq.turn (a' := ?_) ?_ ?_ ?_
      rotate_left
      ·
        intro w1 hw1
        have hM1 := HP.out.2.below hw1 HP.out.lt.2
        have HB1 := hid hw1
        clear hw1
        refine wpList_store_map rfl _ _ _ _ rfl refKey Try.underlying55 rfl r rfl y2 rfl hM1 ?_
        intro w3 hM3 hX3
        refine ⟨?_, hM3, (Mod.ofBelow (S := (· = m)) HB1.out).trans hX3 (fun _ _ h => h)⟩
        exact rfl
      · kernel_rfl
      iterate 0
        refine Seq.calm (a' := ?_) (by decide) ?_ ?_ ?_
        rotate_left
        ·
          intro w1 hw1
          have hk : w1.heap[b]? = some (LBlk (some m) tk) ∧ w1.heap[w.heap.size]? = some (.cells #[.int .i64 r.1.1, .int .u32 r.1.2] 30) := by
            rcases hw1 with h | h
            · exact ⟨blk_below HP.out.1 h HP.out.lt.1, blk_below HN.out h hz2⟩
            · exact ⟨(h.2.block _ HP.out.lt.1 hne).trans HP.out.1, (h.2.block _ hz2 (by omega)).trans HN.out⟩
          have n0 := cell_of hk.2 0
          have n1 := cell_of hk.2 1
          obtain ⟨c0, c1, cf, cl⟩ := lfacts hk.1
          clear hk hw1
          go_wp2_with (fail)
          refine ⟨?_, id, id⟩
          exact rfl
        · kernel_rfl
      refine SeqI.nil ?_
      intro D w1 hD hI
      replace hI := hI.done (hD 6 (by omega))
      clear hD
      dsimp only [List.drop]
      go_wp2_with fail
      go_ret
      exact ⟨rfl, hI.1, (Mod.ofBelow (S := (· = m)) HB.out).trans hI.2 (fun _ _ h => h)⟩
theorem turn_kill (h : LocksAt w b m l tk) (r : RefK) : Calls Try.prog 29 #[.pointer (some ⟨b, 0, none⟩), .agg #[.int .i64 r.1.1, .int .u32 r.1.2], .func (.func 35) #[] #[]] w fun e w' => e = .returned (.int .i64 (turnL l r Wd.kill).1) ∧ MapOf refV wV w' m (turnL l r Wd.kill).2 ∧ Mod (· = m) w w' := by
  obtain ⟨hA, hN⟩ := boxed h r
  obtain ⟨c0, c1, cf, cl⟩ := lfacts hA.1
  have hL : ∀ n, (Instr.lookup 55 (.map (some m)) (.agg #[.int .i64 r.1.1, .int .u32 r.1.2]) true).run Try.prog ((w.alloc (.cells #[.int .i64 r.1.1, .int .u32 r.1.2] 30)).drewN n) = .ok (.tuple #[.int .u64 ((lkp l r).getD w0).1, .bool (lkp l r).isSome]) ((w.alloc (.cells #[.int .i64 r.1.1, .int .u32 r.1.2] 30)).drewN n) := fun n => lk_run (hA.2.same (by simp)) r
  skip
  unfold turnL
  have HL := hid h
  cases hl : lkp l r with
  | none =>
    rw [hl] at hL
    simp only [Option.getD_none, Option.isSome_none] at hL
    go_enter Try.func29, Try.ntmps29
    go_wp2
    go_quiet (fail)
    go_wp2
    go_ret
    refine ⟨rfl, ?_, ?_⟩
    · exact hA.2.same (by simp)
    · exact Mod.ofBelow (by (repeat (first | exact Below.refl _ _ | assumption | with_reducible refine Below.drew ?_ | with_reducible refine below_drewN ?_ | with_reducible refine Below.setCell ?_ (by first | (simp; done) | (simp; omega)) _ | with_reducible refine Below.alloc ?_ (by first | exact Nat.le_refl _ | (simp; done) | (simp; omega)) _)))
  | some y =>
    rw [hl] at hL
    simp only [Option.getD_some, Option.isSome_some] at hL
    have HG := hid (fun w1 => vKill_any y w1)
    have hlt := h.lt
    have hne := h.ne
    simp only []
    generalize Wd.kill y = q at HG ⊢
    obtain ⟨y2, ok⟩ := q
    cases ok
    · go_enter Try.func29, Try.ntmps29
      go_wp2
      go_quiet (fail)
      go_wp2_with (go_at_call 35; refine (HG.out _).mono ?_; rintro e w2 ⟨rfl, hb2⟩)
      go_ret
      have hB : Below w.heap.size w w2 := below_chain (below_drewN (n := nq) ((Below.refl _ _).alloc (Nat.le_refl _) _)) hb2 (by simp)
      refine ⟨rfl, ?_, Mod.ofBelow hB⟩
      exact HL.out.2.below hB hlt.2
    · go_enter Try.func29, Try.ntmps29
      go_wp2
      go_quiet (fail)
      go_wp2_with (go_at_call 35; refine (HG.out _).mono ?_; rintro e w2 ⟨rfl, hb2⟩)
      have hB : Below w.heap.size w w2 := below_chain (below_drewN (n := nq) ((Below.refl _ _).alloc (Nat.le_refl _) _)) hb2 (by simp)
      have hN2 : ((w.alloc (.cells #[.int .i64 r.1.1, .int .u32 r.1.2] 30)).drewN nq).heap[w.heap.size]? = some (.cells #[.int .i64 r.1.1, .int .u32 r.1.2] 30) := hN
      have HN := hid (blk_below hN2 hb2 (by simp))
      have HP := hid (HL.out.keep hB)
      have HB := hid hB
      have hz2 : w.heap.size < w2.heap.size := lt_of_block HN.out
      clear hb2 hL hA hN hN2 c0 c1 cf cl hB
      refine wp_region_seqI 7 (Turn 6 (fun w1 => Below w2.heap.size w2 w1) (fun w1 => MapOf refV wV w1 m (setKV l r y2) ∧ Mod (· = m) w2 w1)) (by kernel_rfl) (by kernel_rfl) (by kernel_rfl) (Turn.start ⟨rfl, rfl, rfl, Nat.le_refl _, fun _ _ => rfl⟩) ?_
      dsimp only [List.take]
      iterate 6
        refine Seq.calm (a' := ?_) (by decide) ?_ ?_ ?_
        rotate_left
        ·
          intro w1 hw1
          have hk : w1.heap[b]? = some (LBlk (some m) tk) ∧ w1.heap[w.heap.size]? = some (.cells #[.int .i64 r.1.1, .int .u32 r.1.2] 30) := by
            rcases hw1 with h | h
            · exact ⟨blk_below HP.out.1 h HP.out.lt.1, blk_below HN.out h hz2⟩
            · exact ⟨(h.2.block _ HP.out.lt.1 hne).trans HP.out.1, (h.2.block _ hz2 (by omega)).trans HN.out⟩
          have n0 := cell_of hk.2 0
          have n1 := cell_of hk.2 1
          obtain ⟨c0, c1, cf, cl⟩ := lfacts hk.1
          clear hk hw1
          go_wp2_with (fail)
          refine ⟨?_, id, id⟩
          exact rfl
        · kernel_rfl
      refine Seq.turn (a' := ?_) ?_ ?_ ?_
      rotate_left
      ·
        intro w1 hw1
        have hM1 := HP.out.2.below hw1 HP.out.lt.2
        have HB1 := hid hw1
        clear hw1
        refine wpList_store_map rfl _ _ _ _ rfl refKey Try.underlying55 rfl r rfl y2 rfl hM1 ?_
        intro w3 hM3 hX3
        refine ⟨?_, hM3, (Mod.ofBelow (S := (· = m)) HB1.out).trans hX3 (fun _ _ h => h)⟩
        exact rfl
      · kernel_rfl
      iterate 0
        refine Seq.calm (a' := ?_) (by decide) ?_ ?_ ?_
        rotate_left
        ·
          intro w1 hw1
          have hk : w1.heap[b]? = some (LBlk (some m) tk) ∧ w1.heap[w.heap.size]? = some (.cells #[.int .i64 r.1.1, .int .u32 r.1.2] 30) := by
            rcases hw1 with h | h
            · exact ⟨blk_below HP.out.1 h HP.out.lt.1, blk_below HN.out h hz2⟩
            · exact ⟨(h.2.block _ HP.out.lt.1 hne).trans HP.out.1, (h.2.block _ hz2 (by omega)).trans HN.out⟩
          have n0 := cell_of hk.2 0
          have n1 := cell_of hk.2 1
          obtain ⟨c0, c1, cf, cl⟩ := lfacts hk.1
          clear hk hw1
          go_wp2_with (fail)
          refine ⟨?_, id, id⟩
          exact rfl
        · kernel_rfl
      refine SeqI.nil ?_
      intro D w1 hD hI
      replace hI := hI.done (hD 6 (by omega))
      clear hD
      dsimp only [List.drop]
      go_wp2_with fail
      go_ret
      exact ⟨rfl, hI.1, (Mod.ofBelow (S := (· = m)) HB.out).trans hI.2 (fun _ _ h => h)⟩
theorem turn_only (h : LocksAt w b m l tk) (r : RefK) (c d : Nat) (x : Wd) (hc : w.heap[c]? = some (.cells #[.int .u64 x.1] 24)) (hd : w.heap[d]? = some (.cells #[.func (.func 31) #[] #[]] 65)) :
    Calls Try.prog 29 #[.pointer (some ⟨b, 0, none⟩), .agg #[.int .i64 r.1.1, .int .u32 r.1.2], .func (.func 48) #[] #[.pointer (some ⟨c, 0, none⟩), .pointer (some ⟨d, 0, none⟩)]] w fun e w' => e = .returned (.int .i64 (turnL l r (Wd.only x)).1) ∧ MapOf refV wV w' m (turnL l r (Wd.only x)).2 ∧ Mod (· = m) w w' := by
  obtain ⟨hA, hN⟩ := boxed h r
  obtain ⟨c0, c1, cf, cl⟩ := lfacts hA.1
  have hL : ∀ n, (Instr.lookup 55 (.map (some m)) (.agg #[.int .i64 r.1.1, .int .u32 r.1.2]) true).run Try.prog ((w.alloc (.cells #[.int .i64 r.1.1, .int .u32 r.1.2] 30)).drewN n) = .ok (.tuple #[.int .u64 ((lkp l r).getD w0).1, .bool (lkp l r).isSome]) ((w.alloc (.cells #[.int .i64 r.1.1, .int .u32 r.1.2] 30)).drewN n) := fun n => lk_run (hA.2.same (by simp)) r
  have hcA := blk_alloc (o' := .cells #[.int .i64 r.1.1, .int .u32 r.1.2] 30) hc
  have hdA := blk_alloc (o' := .cells #[.int .i64 r.1.1, .int .u32 r.1.2] 30) hd
  unfold turnL
  have HL := hid h
  cases hl : lkp l r with
  | none =>
    rw [hl] at hL
    simp only [Option.getD_none, Option.isSome_none] at hL
    go_enter Try.func29, Try.ntmps29
    go_wp2
    go_quiet (fail)
    go_wp2
    go_ret
    refine ⟨rfl, ?_, ?_⟩
    · exact hA.2.same (by simp)
    · exact Mod.ofBelow (by (repeat (first | exact Below.refl _ _ | assumption | with_reducible refine Below.drew ?_ | with_reducible refine below_drewN ?_ | with_reducible refine Below.setCell ?_ (by first | (simp; done) | (simp; omega)) _ | with_reducible refine Below.alloc ?_ (by first | exact Nat.le_refl _ | (simp; done) | (simp; omega)) _)))
  | some y =>
    rw [hl] at hL
    simp only [Option.getD_some, Option.isSome_some] at hL
    have HG := hid (fun (w1 : World) h1 h2 => only1_any c d x y w1 h1 h2)
    have hlt := h.lt
    have hne := h.ne
    simp only []
    generalize Wd.only x y = q at HG ⊢
    obtain ⟨y2, ok⟩ := q
    cases ok
    · go_enter Try.func29, Try.ntmps29
      go_wp2
      go_quiet (fail)
      go_wp2_with (go_at_call 48; refine (HG.out ((w.alloc (.cells #[.int .i64 r.1.1, .int .u32 r.1.2] 30)).drewN nq) hcA hdA).mono ?_; rintro e w2 ⟨rfl, hb2⟩)
      go_ret
      have hB : Below w.heap.size w w2 := below_chain (below_drewN (n := nq) ((Below.refl _ _).alloc (Nat.le_refl _) _)) hb2 (by simp)
      refine ⟨rfl, ?_, Mod.ofBelow hB⟩
      exact HL.out.2.below hB hlt.2
    · go_enter Try.func29, Try.ntmps29
      go_wp2
      go_quiet (fail)
      go_wp2_with (go_at_call 48; refine (HG.out ((w.alloc (.cells #[.int .i64 r.1.1, .int .u32 r.1.2] 30)).drewN nq) hcA hdA).mono ?_; rintro e w2 ⟨rfl, hb2⟩)
      have hB : Below w.heap.size w w2 := below_chain (below_drewN (n := nq) ((Below.refl _ _).alloc (Nat.le_refl _) _)) hb2 (by simp)
      have hN2 : ((w.alloc (.cells #[.int .i64 r.1.1, .int .u32 r.1.2] 30)).drewN nq).heap[w.heap.size]? = some (.cells #[.int .i64 r.1.1, .int .u32 r.1.2] 30) := hN
      have HN := hid (blk_below hN2 hb2 (by simp))
      have HP := hid (HL.out.keep hB)
      have HB := hid hB
      have hz2 : w.heap.size < w2.heap.size := lt_of_block HN.out
      clear hb2 hL hA hN hN2 c0 c1 cf cl hB
      refine wp_region_seqI 7 (Turn 6 (fun w1 => Below w2.heap.size w2 w1) (fun w1 => MapOf refV wV w1 m (setKV l r y2) ∧ Mod (· = m) w2 w1)) (by kernel_rfl) (by kernel_rfl) (by kernel_rfl) (Turn.start ⟨rfl, rfl, rfl, Nat.le_refl _, fun _ _ => rfl⟩) ?_
      dsimp only [List.take]
      iterate 6
        refine Seq.calm (a' := ?_) (by decide) ?_ ?_ ?_
        rotate_left
        ·
          intro w1 hw1
          have hk : w1.heap[b]? = some (LBlk (some m) tk) ∧ w1.heap[w.heap.size]? = some (.cells #[.int .i64 r.1.1, .int .u32 r.1.2] 30) := by
            rcases hw1 with h | h
            · exact ⟨blk_below HP.out.1 h HP.out.lt.1, blk_below HN.out h hz2⟩
            · exact ⟨(h.2.block _ HP.out.lt.1 hne).trans HP.out.1, (h.2.block _ hz2 (by omega)).trans HN.out⟩
          have n0 := cell_of hk.2 0
          have n1 := cell_of hk.2 1
          obtain ⟨c0, c1, cf, cl⟩ := lfacts hk.1
          clear hk hw1
          go_wp2_with (fail)
          refine ⟨?_, id, id⟩
          exact rfl
        · kernel_rfl
      refine Seq.turn (a' := ?_) ?_ ?_ ?_
      rotate_left
      ·
        intro w1 hw1
        have hM1 := HP.out.2.below hw1 HP.out.lt.2
        have HB1 := hid hw1
        clear hw1
        refine wpList_store_map rfl _ _ _ _ rfl refKey Try.underlying55 rfl r rfl y2 rfl hM1 ?_
        intro w3 hM3 hX3
        refine ⟨?_, hM3, (Mod.ofBelow (S := (· = m)) HB1.out).trans hX3 (fun _ _ h => h)⟩
        exact rfl
      · kernel_rfl
      iterate 0
        refine Seq.calm (a' := ?_) (by decide) ?_ ?_ ?_
        rotate_left
        ·
          intro w1 hw1
          have hk : w1.heap[b]? = some (LBlk (some m) tk) ∧ w1.heap[w.heap.size]? = some (.cells #[.int .i64 r.1.1, .int .u32 r.1.2] 30) := by
            rcases hw1 with h | h
            · exact ⟨blk_below HP.out.1 h HP.out.lt.1, blk_below HN.out h hz2⟩
            · exact ⟨(h.2.block _ HP.out.lt.1 hne).trans HP.out.1, (h.2.block _ hz2 (by omega)).trans HN.out⟩
          have n0 := cell_of hk.2 0
          have n1 := cell_of hk.2 1
          obtain ⟨c0, c1, cf, cl⟩ := lfacts hk.1
          clear hk hw1
          go_wp2_with (fail)
          refine ⟨?_, id, id⟩
          exact rfl
        · kernel_rfl
      refine SeqI.nil ?_
      intro D w1 hD hI
      replace hI := hI.done (hD 6 (by omega))
      clear hD
      dsimp only [List.drop]
      go_wp2_with fail
      go_ret
      exact ⟨rfl, hI.1, (Mod.ofBelow (S := (· = m)) HB.out).trans hI.2 (fun _ _ h => h)⟩
end
end Go.Proofs.Ytofkodfdgbjboaa
