/- Part 25 of 51 of a proof: lemmas on the functions that it reaches. -/
import Derived.Test.YtnngicopphiaaaaGreatDoorC24
import Derived.Test.YtnngicopphiaaaaGreatDoorC21
import Derived.Test.YtnngicopphiaaaaGreatDoorC22
import Derived.Deep.RegionWith
namespace Go.Burg.Lk
def Wd.only (y x : Wd) : Wd × Bool := if x = y then x.lock else (x, false)
end Go.Burg.Lk
namespace Go.Proofs.YtnngicopphiaaaaGreatDoor.K
set_option maxRecDepth 8000
open Go.ChangeShapes Go.WideShapes Go.ChangeAt Go.RowKit Go.Burg
open Go.Burg.Lk
theorem only1_any (c d : Nat) (y x : Wd) (w : World) (hc : w.heap[c]? = some (.cells #[.int .u64 y.1] 34)) (hd : w.heap[d]? = some (.cells #[.func (.func 62) #[] #[]] 118)) :
    Calls Tryz.prog 93 #[.int .u64 x.1, .pointer (some ⟨c, 0, none⟩), .pointer (some ⟨d, 0, none⟩)] w fun e w' => e = .returned (.tuple #[wV (Wd.only y x).1, .bool (Wd.only y x).2]) ∧ Below w.heap.size w w' := by
  have c0 := cell_of hc 0
  have d0 := cell_of hd 0
  unfold Wd.only
  by_cases he : x = y
  · subst he
    rw [if_pos rfl]
    have HL := hid (vLock_any x w)
    have hq : (x.1 != x.1) = false := by simp
    go_enter Tryz.func93, Tryz.ntmps93
    go_wp2_with (go_at_call 62; refine HL.out.mono ?_; rintro e w1 ⟨rfl, hb1⟩)
    go_ret2
    exact ⟨rfl, hb1⟩
  · rw [if_neg he]
    have hq : (x.1 != y.1) = true := by simpa using fun e => he (Subtype.ext e)
    go_enter Tryz.func93, Tryz.ntmps93
    go_wp2_with fail
    go_ret2
    exact ⟨rfl, Below.refl _ _⟩
theorem only_any (y : Wd) (w : World) : Calls Tryz.prog 61 #[.int .u64 y.1, .func (.func 62) #[] #[]] w fun e w' => e = .returned (.func (.func 93) #[] #[.pointer (some ⟨w.heap.size, 0, none⟩), .pointer (some ⟨w.heap.size + 1, 0, none⟩)]) ∧
    w'.heap[w.heap.size]? = some (.cells #[.int .u64 y.1] 34) ∧ w'.heap[w.heap.size + 1]? = some (.cells #[.func (.func 62) #[] #[]] 118) ∧ Below w.heap.size w w' := by
  have hmf : ∀ (fn : Fn) (first cap : Array Value) (w : World), (Instr.makeFunc fn first cap).run Tryz.prog w = .ok (.func fn first cap) w := fun _ _ _ _ => rfl
  go_enter Tryz.func61, Tryz.ntmps61
  go_wp2_with fail
  go_ret
  refine ⟨rfl, ?_, ?_, by (repeat (first | exact Below.refl _ _ | assumption | with_reducible refine Below.drew ?_ | with_reducible refine below_drewN ?_ | with_reducible refine Below.setCell ?_ (by first | (simp; done) | (simp; omega)) _ | with_reducible refine Below.alloc ?_ (by first | exact Nat.le_refl _ | (simp; done) | (simp; omega)) _))⟩
  · exact blk_alloc (heap_new _ _)
  · have := heap_new (w.alloc (.cells #[.int .u64 y.1] 34)) (.cells #[.func (.func 62) #[] #[]] 118)
    simpa using this
def turnL (l : List (RefK × Wd)) (r : RefK) (g : Wd → Wd × Bool) : Int × List (RefK × Wd) := match lkp l r with
  | none => (5, l)
  | some x => if (g x).2 then (0, setKV l r (g x).1) else (15, l)
section
variable {w : World} {b m : Nat} {l : List (RefK × Wd)} {tk : Int}
theorem turn_drop (h : LocksAt w b m l tk) (r : RefK) : Calls Tryz.prog 60 #[.pointer (some ⟨b, 0, none⟩), .agg #[.int .i64 r.1.1, .int .u32 r.1.2], .func (.func 64) #[] #[]] w fun e w' => e = .returned (.int .i64 (turnL l r Wd.drop).1) ∧ MapOf refV wV w' m (turnL l r Wd.drop).2 ∧ Mod (· = m) w w' := by
  obtain ⟨hA, hN⟩ := boxed h r
  obtain ⟨c0, c1, cf, cl⟩ := lfacts hA.1
  have hL : ∀ n, (Instr.lookup 107 (.map (some m)) (.agg #[.int .i64 r.1.1, .int .u32 r.1.2]) true).run Tryz.prog ((w.alloc (.cells #[.int .i64 r.1.1, .int .u32 r.1.2] 30)).drewN n) = .ok (.tuple #[.int .u64 ((lkp l r).getD w0).1, .bool (lkp l r).isSome]) ((w.alloc (.cells #[.int .i64 r.1.1, .int .u32 r.1.2] 30)).drewN n) := fun n => lk_run (hA.2.same (by simp)) r
  skip
  unfold turnL
  have HL := hid h
  cases hl : lkp l r with
  | none =>
    rw [hl] at hL
    simp only [Option.getD_none, Option.isSome_none] at hL
    go_enter Tryz.func60, Tryz.ntmps60
    go_wp2
    go_quiet (fail)
    go_wp2
    go_ret
    refine ⟨rfl, ?_, ?_⟩
    · exact hA.2.same (by simp)
    · exact Mod.ofBelow (by (repeat (first | exact Below.refl _ _ | assumption | with_reducible refine Below.drew ?_ | with_reducible refine below_drewN ?_ | with_reducible refine Below.setCell ?_ (by first | (simp; done) | (simp; omega)) _ | with_reducible refine Below.alloc ?_ (by first | exact Nat.le_refl _ | (simp; done) | (simp; omega)) _)))
  | some y =>
    rw [hl] at hL
    simp only [Option.getD_some, Option.isSome_some] at hL
    have HG := hid (fun w1 => vDrop_any y w1)
    have hlt := h.lt
    have hne := h.ne
    simp only []
    generalize Wd.drop y = q at HG ⊢
    obtain ⟨y2, ok⟩ := q
    cases ok
    · go_enter Tryz.func60, Tryz.ntmps60
      go_wp2
      go_quiet (fail)
      go_wp2_with (go_at_call 64; refine (HG.out _).mono ?_; rintro e w2 ⟨rfl, hb2⟩)
      go_ret
      have hB : Below w.heap.size w w2 := below_chain (below_drewN (n := nq) ((Below.refl _ _).alloc (Nat.le_refl _) _)) hb2 (by simp)
      refine ⟨rfl, ?_, Mod.ofBelow hB⟩
      exact HL.out.2.below hB hlt.2
    · go_enter Tryz.func60, Tryz.ntmps60
      go_wp2
      go_quiet (fail)
      go_wp2_with (go_at_call 64; refine (HG.out _).mono ?_; rintro e w2 ⟨rfl, hb2⟩)
      have hB : Below w.heap.size w w2 := below_chain (below_drewN (n := nq) ((Below.refl _ _).alloc (Nat.le_refl _) _)) hb2 (by simp)
      have hN2 : ((w.alloc (.cells #[.int .i64 r.1.1, .int .u32 r.1.2] 30)).drewN nq).heap[w.heap.size]? = some (.cells #[.int .i64 r.1.1, .int .u32 r.1.2] 30) := hN
      have HN := hid (blk_below hN2 hb2 (by simp))
      have HP := hid (HL.out.keep hB)
      have HB := hid hB
      have hz2 : w.heap.size < w2.heap.size := lt_of_block HN.out
      clear hb2 hL hA hN hN2 c0 c1 cf cl hB
      refine wp_region_seqI 7 (Turn 6 (fun w1 => Below w2.heap.size w2 w1) (fun w1 => MapOf refV wV w1 m (setKV l r y2) ∧ Mod (· = m) w2 w1)) (by kernel_rfl) (by kernel_rfl) (by kernel_rfl) (Turn.start ⟨rfl, rfl, rfl, Nat.le_refl _, fun _ _ => rfl⟩) ?_
      dsimp only [List.take]
      iterate 6
        refine Seq.calm (a' := ?_) (by decide) ?_ ?_ ?_
        rotate_left
        ·
          intro w1 hw1
          have hk : w1.heap[b]? = some (LBlk (some m) tk) ∧ w1.heap[w.heap.size]? = some (.cells #[.int .i64 r.1.1, .int .u32 r.1.2] 30) := by
            rcases hw1 with h | h
            · exact ⟨blk_below HP.out.1 h HP.out.lt.1, blk_below HN.out h hz2⟩
            · exact ⟨(h.2.block _ HP.out.lt.1 hne).trans HP.out.1, (h.2.block _ hz2 (by omega)).trans HN.out⟩
          have n0 := cell_of hk.2 0
          have n1 := cell_of hk.2 1
          obtain ⟨c0, c1, cf, cl⟩ := lfacts hk.1
          clear hk hw1
          go_wp2_with (fail)
          refine ⟨?_, id, id⟩
          exact rfl
        · kernel_rfl
      refine Seq.turn (a' := ?_) ?_ ?_ ?_
      rotate_left
      ·
        intro w1 hw1
        have hM1 := HP.out.2.below hw1 HP.out.lt.2
        have HB1 := hid hw1
        clear hw1
        refine wpList_store_map rfl _ _ _ _ rfl refKey Tryz.underlying107 rfl r rfl y2 rfl hM1 ?_
        intro w3 hM3 hX3
        refine ⟨?_, hM3, (Mod.ofBelow (S := (· = m)) HB1.out).trans hX3 (fun _ _ h => h)⟩
        exact rfl
      · kernel_rfl
      iterate 0
        refine Seq.calm (a' := ?_) (by decide) ?_ ?_ ?_
        rotate_left
        ·
          intro w1 hw1
          have hk : w1.heap[b]? = some (LBlk (some m) tk) ∧ w1.heap[w.heap.size]? = some (.cells #[.int .i64 r.1.1, .int .u32 r.1.2] 30) := by
            rcases hw1 with h | h
            · exact ⟨blk_below HP.out.1 h HP.out.lt.1, blk_below HN.out h hz2⟩
            · exact ⟨(h.2.block _ HP.out.lt.1 hne).trans HP.out.1, (h.2.block _ hz2 (by omega)).trans HN.out⟩
          have n0 := cell_of hk.2 0
          have n1 := cell_of hk.2 1
          obtain ⟨c0, c1, cf, cl⟩ := lfacts hk.1
          clear hk hw1
          go_wp2_with (fail)
          refine ⟨?_, id, id⟩
          exact rfl
        · kernel_rfl
      refine SeqI.nil ?_
      intro D w1 hD hI
      replace hI := hI.done (hD 6 (by omega))
      clear hD
      dsimp only [List.drop]
      go_wp2_with fail
      go_ret
      exact ⟨rfl, hI.1, (Mod.ofBelow (S := (· = m)) HB.out).trans hI.2 (fun _ _ h => h)⟩
theorem turn_done (h : LocksAt w b m l tk) (r : RefK) : Calls Tryz.prog 60 #[.pointer (some ⟨b, 0, none⟩), .agg #[.int .i64 r.1.1, .int .u32 r.1.2], .func (.func 65) #[] #[]] w fun e w' => e = .returned (.int .i64 (turnL l r Wd.done).1) ∧ MapOf refV wV w' m (turnL l r Wd.done).2 ∧ Mod (· = m) w w' := by
  obtain ⟨hA, hN⟩ := boxed h r
  obtain ⟨c0, c1, cf, cl⟩ := lfacts hA.1
  have hL : ∀ n, (Instr.lookup 107 (.map (some m)) (.agg #[.int .i64 r.1.1, .int .u32 r.1.2]) true).run Tryz.prog ((w.alloc (.cells #[.int .i64 r.1.1, .int .u32 r.1.2] 30)).drewN n) = .ok (.tuple #[.int .u64 ((lkp l r).getD w0).1, .bool (lkp l r).isSome]) ((w.alloc (.cells #[.int .i64 r.1.1, .int .u32 r.1.2] 30)).drewN n) := fun n => lk_run (hA.2.same (by simp)) r
  skip
  unfold turnL
  have HL := hid h
  cases hl : lkp l r with
  | none =>
    rw [hl] at hL
    simp only [Option.getD_none, Option.isSome_none] at hL
    go_enter Tryz.func60, Tryz.ntmps60
    go_wp2
    go_quiet (fail)
    go_wp2
    go_ret
    refine ⟨rfl, ?_, ?_⟩
    · exact hA.2.same (by simp)
    · exact Mod.ofBelow (by (repeat (first | exact Below.refl _ _ | assumption | with_reducible refine Below.drew ?_ | with_reducible refine below_drewN ?_ | with_reducible refine Below.setCell ?_ (by first | (simp; done) | (simp; omega)) _ | with_reducible refine Below.alloc ?_ (by first | exact Nat.le_refl _ | (simp; done) | (simp; omega)) _)))
  | some y =>
    rw [hl] at hL
    simp only [Option.getD_some, Option.isSome_some] at hL
    have HG := hid (fun w1 => vDone_any y w1)
    have hlt := h.lt
    have hne := h.ne
    simp only []
    generalize Wd.done y = q at HG ⊢
    obtain ⟨y2, ok⟩ := q
    cases ok
    · go_enter Tryz.func60, Tryz.ntmps60
      go_wp2
      go_quiet (fail)
      go_wp2_with (go_at_call 65; refine (HG.out _).mono ?_; rintro e w2 ⟨rfl, hb2⟩)
      go_ret
      have hB : Below w.heap.size w w2 := below_chain (below_drewN (n := nq) ((Below.refl _ _).alloc (Nat.le_refl _) _)) hb2 (by simp)
      refine ⟨rfl, ?_, Mod.ofBelow hB⟩
      exact HL.out.2.below hB hlt.2
    · go_enter Tryz.func60, Tryz.ntmps60
      go_wp2
      go_quiet (fail)
      go_wp2_with (go_at_call 65; refine (HG.out _).mono ?_; rintro e w2 ⟨rfl, hb2⟩)
      have hB : Below w.heap.size w w2 := below_chain (below_drewN (n := nq) ((Below.refl _ _).alloc (Nat.le_refl _) _)) hb2 (by simp)
      have hN2 : ((w.alloc (.cells #[.int .i64 r.1.1, .int .u32 r.1.2] 30)).drewN nq).heap[w.heap.size]? = some (.cells #[.int .i64 r.1.1, .int .u32 r.1.2] 30) := hN
      have HN := hid (blk_below hN2 hb2 (by simp))
      have HP := hid (HL.out.keep hB)
      have HB := hid hB
      have hz2 : w.heap.size < w2.heap.size := lt_of_block HN.out
      clear hb2 hL hA hN hN2 c0 c1 cf cl hB
      refine wp_region_seqI 7 (Turn 6 (fun w1 => Below w2.heap.size w2 w1) (fun w1 => MapOf refV wV w1 m (setKV l r y2) ∧ Mod (· = m) w2 w1)) (by kernel_rfl) (by kernel_rfl) (by kernel_rfl) (Turn.start ⟨rfl, rfl, rfl, Nat.le_refl _, fun _ _ => rfl⟩) ?_
      dsimp only [List.take]
      iterate 6
        refine Seq.calm (a' := ?_) (by decide) ?_ ?_ ?_
        rotate_left
        ·
          intro w1 hw1
          have hk : w1.heap[b]? = some (LBlk (some m) tk) ∧ w1.heap[w.heap.size]? = some (.cells #[.int .i64 r.1.1, .int .u32 r.1.2] 30) := by
            rcases hw1 with h | h
            · exact ⟨blk_below HP.out.1 h HP.out.lt.1, blk_below HN.out h hz2⟩
            · exact ⟨(h.2.block _ HP.out.lt.1 hne).trans HP.out.1, (h.2.block _ hz2 (by omega)).trans HN.out⟩
          have n0 := cell_of hk.2 0
          have n1 := cell_of hk.2 1
          obtain ⟨c0, c1, cf, cl⟩ := lfacts hk.1
          clear hk hw1
          go_wp2_with (fail)
          refine ⟨?_, id, id⟩
          exact rfl
        · kernel_rfl
      refine Seq.turn (a' := ?_) ?_ ?_ ?_
      rotate_left
      ·
        intro w1 hw1
        have hM1 := HP.out.2.below hw1 HP.out.lt.2
        have HB1 := hid hw1
        clear hw1
        refine wpList_store_map rfl _ _ _ _ rfl refKey Tryz.underlying107 rfl r rfl y2 rfl hM1 ?_
        intro w3 hM3 hX3
        refine ⟨?_, hM3, (Mod.ofBelow (S := (· = m)) HB1.out).trans hX3 (fun _ _ h => h)⟩
        exact rfl
      · kernel_rfl
      iterate 0
        refine Seq.calm (a' := ?_) (by decide) ?_ ?_ ?_
        rotate_left
        ·
          intro w1 hw1
          have hk : w1.heap[b]? = some (LBlk (some m) tk) ∧ w1.heap[w.heap.size]? = some (.cells #[.int .i64 r.1.1, .int .u32 r.1.2] 30) := by
            rcases hw1 with h | h
            · exact ⟨blk_below HP.out.1 h HP.out.lt.1, blk_below HN.out h hz2⟩
            · exact ⟨(h.2.block _ HP.out.lt.1 hne).trans HP.out.1, (h.2.block _ hz2 (by omega)).trans HN.out⟩
          have n0 := cell_of hk.2 0
          have n1 := cell_of hk.2 1
          obtain ⟨c0, c1, cf, cl⟩ := lfacts hk.1
          clear hk hw1
          go_wp2_with (fail)
          refine ⟨?_, id, id⟩
          exact rfl
        · kernel_rfl
      refine SeqI.nil ?_
      intro D w1 hD hI
      replace hI := hI.done (hD 6 (by omega))
      clear hD
      dsimp only [List.drop]
      go_wp2_with fail
      go_ret
      exact ⟨rfl, hI.1, (Mod.ofBelow (S := (· = m)) HB.out).trans hI.2 (fun _ _ h => h)⟩
theorem turn_only (h : LocksAt w b m l tk) (r : RefK) (c d : Nat) (x : Wd) (hc : w.heap[c]? = some (.cells #[.int .u64 x.1] 34)) (hd : w.heap[d]? = some (.cells #[.func (.func 62) #[] #[]] 118)) :
    Calls Tryz.prog 60 #[.pointer (some ⟨b, 0, none⟩), .agg #[.int .i64 r.1.1, .int .u32 r.1.2], .func (.func 93) #[] #[.pointer (some ⟨c, 0, none⟩), .pointer (some ⟨d, 0, none⟩)]] w fun e w' => e = .returned (.int .i64 (turnL l r (Wd.only x)).1) ∧ MapOf refV wV w' m (turnL l r (Wd.only x)).2 ∧ Mod (· = m) w w' := by
  obtain ⟨hA, hN⟩ := boxed h r
  obtain ⟨c0, c1, cf, cl⟩ := lfacts hA.1
  have hL : ∀ n, (Instr.lookup 107 (.map (some m)) (.agg #[.int .i64 r.1.1, .int .u32 r.1.2]) true).run Tryz.prog ((w.alloc (.cells #[.int .i64 r.1.1, .int .u32 r.1.2] 30)).drewN n) = .ok (.tuple #[.int .u64 ((lkp l r).getD w0).1, .bool (lkp l r).isSome]) ((w.alloc (.cells #[.int .i64 r.1.1, .int .u32 r.1.2] 30)).drewN n) := fun n => lk_run (hA.2.same (by simp)) r
  have hcA := blk_alloc (o' := .cells #[.int .i64 r.1.1, .int .u32 r.1.2] 30) hc
  have hdA := blk_alloc (o' := .cells #[.int .i64 r.1.1, .int .u32 r.1.2] 30) hd
  unfold turnL
  have HL := hid h
  cases hl : lkp l r with
  | none =>
    rw [hl] at hL
    simp only [Option.getD_none, Option.isSome_none] at hL
    go_enter Tryz.func60, Tryz.ntmps60
    go_wp2
    go_quiet (fail)
    go_wp2
    go_ret
    refine ⟨rfl, ?_, ?_⟩
    · exact hA.2.same (by simp)
    · exact Mod.ofBelow (by (repeat (first | exact Below.refl _ _ | assumption | with_reducible refine Below.drew ?_ | with_reducible refine below_drewN ?_ | with_reducible refine Below.setCell ?_ (by first | (simp; done) | (simp; omega)) _ | with_reducible refine Below.alloc ?_ (by first | exact Nat.le_refl _ | (simp; done) | (simp; omega)) _)))
  | some y =>
    rw [hl] at hL
    simp only [Option.getD_some, Option.isSome_some] at hL
    have HG := hid (fun (w1 : World) h1 h2 => only1_any c d x y w1 h1 h2)
    have hlt := h.lt
    have hne := h.ne
    simp only []
    generalize Wd.only x y = q at HG ⊢
    obtain ⟨y2, ok⟩ := q
    cases ok
    · go_enter Tryz.func60, Tryz.ntmps60
      go_wp2
      go_quiet (fail)
      go_wp2_with (go_at_call 93; refine (HG.out ((w.alloc (.cells #[.int .i64 r.1.1, .int .u32 r.1.2] 30)).drewN nq) hcA hdA).mono ?_; rintro e w2 ⟨rfl, hb2⟩)
      go_ret
      have hB : Below w.heap.size w w2 := below_chain (below_drewN (n := nq) ((Below.refl _ _).alloc (Nat.le_refl _) _)) hb2 (by simp)
      refine ⟨rfl, ?_, Mod.ofBelow hB⟩
      exact HL.out.2.below hB hlt.2
    · go_enter Tryz.func60, Tryz.ntmps60
      go_wp2
      go_quiet (fail)
      go_wp2_with (go_at_call 93; refine (HG.out ((w.alloc (.cells #[.int .i64 r.1.1, .int .u32 r.1.2] 30)).drewN nq) hcA hdA).mono ?_; rintro e w2 ⟨rfl, hb2⟩)
      have hB : Below w.heap.size w w2 := below_chain (below_drewN (n := nq) ((Below.refl _ _).alloc (Nat.le_refl _) _)) hb2 (by simp)
      have hN2 : ((w.alloc (.cells #[.int .i64 r.1.1, .int .u32 r.1.2] 30)).drewN nq).heap[w.heap.size]? = some (.cells #[.int .i64 r.1.1, .int .u32 r.1.2] 30) := hN
      have HN := hid (blk_below hN2 hb2 (by simp))
      have HP := hid (HL.out.keep hB)
      have HB := hid hB
      have hz2 : w.heap.size < w2.heap.size := lt_of_block HN.out
      clear hb2 hL hA hN hN2 c0 c1 cf cl hB
      refine wp_region_seqI 7 (Turn 6 (fun w1 => Below w2.heap.size w2 w1) (fun w1 => MapOf refV wV w1 m (setKV l r y2) ∧ Mod (· = m) w2 w1)) (by kernel_rfl) (by kernel_rfl) (by kernel_rfl) (Turn.start ⟨rfl, rfl, rfl, Nat.le_refl _, fun _ _ => rfl⟩) ?_
      dsimp only [List.take]
      iterate 6
        refine Seq.calm (a' := ?_) (by decide) ?_ ?_ ?_
        rotate_left
        ·
          intro w1 hw1
          have hk : w1.heap[b]? = some (LBlk (some m) tk) ∧ w1.heap[w.heap.size]? = some (.cells #[.int .i64 r.1.1, .int .u32 r.1.2] 30) := by
            rcases hw1 with h | h
            · exact ⟨blk_below HP.out.1 h HP.out.lt.1, blk_below HN.out h hz2⟩
            · exact ⟨(h.2.block _ HP.out.lt.1 hne).trans HP.out.1, (h.2.block _ hz2 (by omega)).trans HN.out⟩
          have n0 := cell_of hk.2 0
          have n1 := cell_of hk.2 1
          obtain ⟨c0, c1, cf, cl⟩ := lfacts hk.1
          clear hk hw1
          go_wp2_with (fail)
          refine ⟨?_, id, id⟩
          exact rfl
        · kernel_rfl
      refine Seq.turn (a' := ?_) ?_ ?_ ?_
      rotate_left
      ·
        intro w1 hw1
        have hM1 := HP.out.2.below hw1 HP.out.lt.2
        have HB1 := hid hw1
        clear hw1
        refine wpList_store_map rfl _ _ _ _ rfl refKey Tryz.underlying107 rfl r rfl y2 rfl hM1 ?_
        intro w3 hM3 hX3
        refine ⟨?_, hM3, (Mod.ofBelow (S := (· = m)) HB1.out).trans hX3 (fun _ _ h => h)⟩
        exact rfl
      · kernel_rfl
      iterate 0
        refine Seq.calm (a' := ?_) (by decide) ?_ ?_ ?_
        rotate_left
        ·
          intro w1 hw1
          have hk : w1.heap[b]? = some (LBlk (some m) tk) ∧ w1.heap[w.heap.size]? = some (.cells #[.int .i64 r.1.1, .int .u32 r.1.2] 30) := by
            rcases hw1 with h | h
            · exact ⟨blk_below HP.out.1 h HP.out.lt.1, blk_below HN.out h hz2⟩
            · exact ⟨(h.2.block _ HP.out.lt.1 hne).trans HP.out.1, (h.2.block _ hz2 (by omega)).trans HN.out⟩
          have n0 := cell_of hk.2 0
          have n1 := cell_of hk.2 1
          obtain ⟨c0, c1, cf, cl⟩ := lfacts hk.1
          clear hk hw1
          go_wp2_with (fail)
          refine ⟨?_, id, id⟩
          exact rfl
        · kernel_rfl
      refine SeqI.nil ?_
      intro D w1 hD hI
      replace hI := hI.done (hD 6 (by omega))
      clear hD
      dsimp only [List.drop]
      go_wp2_with fail
      go_ret
      exact ⟨rfl, hI.1, (Mod.ofBelow (S := (· = m)) HB.out).trans hI.2 (fun _ _ h => h)⟩
end
end Go.Proofs.YtnngicopphiaaaaGreatDoor.K

namespace Go.Proofs.YtnngicopphiaaaaGreatDoor.K
set_option maxRecDepth 8000
open Go.ChangeShapes Go.WideShapes Go.ChangeAt Go.RowKit Go.Burg
open Go.Burg.Lk
theorem new_at (w : World) : Calls Tryz.prog 22 #[] w fun e w' => ∃ b m, e = .returned (.pointer (some ⟨b, 0, none⟩)) ∧ LocksAt w' b m [] 0 ∧ w.heap.size ≤ b ∧ w.heap.size ≤ m ∧ Below w.heap.size w w' := by
  have hmm := @run_makeMap Tryz.prog
  go_enter Tryz.func22, Tryz.ntmps22
  go_wp2
  go_ret
  refine ⟨w.heap.size + 1, w.heap.size, rfl, ⟨?_, ?_⟩, by omega, by omega, by (repeat (first | exact Below.refl _ _ | assumption | with_reducible refine Below.drew ?_ | with_reducible refine below_drewN ?_ | with_reducible refine Below.setCell ?_ (by first | (simp; done) | (simp; omega)) _ | with_reducible refine Below.alloc ?_ (by first | exact Nat.le_refl _ | (simp; done) | (simp; omega)) _))⟩
  · simpa [LBlk] using heap_new (w.alloc (.map #[] 0)) (LBlk (some w.heap.size) 0)
  · exact MapOf.alloc ⟨#[], 0, heap_new _ _, by simp, by simp, by simp⟩ _
def okRef (r : RefK) : Bool := decide (0 ≤ r.1.1) && decide (r.1.1 < 4096) && decide (1 ≤ r.1.2)
def addL (l : List (RefK × Wd)) (r : RefK) : Int × List (RefK × Wd) := if okRef r then (if (lkp l r).isSome then (8, l) else (0, l ++ [(r, w0)])) else (2, l)
def goneL (l : List (RefK × Wd)) (r : RefK) : Int × List (RefK × Wd) := if (lkp l r).isSome then (0, delKV l r) else (5, l)
def lockL (l : List (RefK × Wd)) (r : RefK) (x : Wd) : Bool × List (RefK × Wd) := let p := turnL l r (Wd.only x); (decide (p.1 = 0), p.2)
section
variable {w : World} {b m : Nat} {l : List (RefK × Wd)} {tk : Int}
theorem set_new {r : RefK} (h : (lkp l r).isSome = false) : setKV l r w0 = l ++ [(r, w0)] := by
  unfold lkp at h
  unfold setKV
  rw [h]
  rfl
theorem add_at (h : LocksAt w b m l tk) (r : RefK) : Calls Tryz.prog 56 #[.pointer (some ⟨b, 0, none⟩), .agg #[.int .i64 r.1.1, .int .u32 r.1.2]] w fun e w' => e = .returned (.int .i64 (addL l r).1) ∧ MapOf refV wV w' m (addL l r).2 ∧ Mod (· = m) w w' := by
  obtain ⟨hA, hN⟩ := boxed h r
  obtain ⟨c0, c1, cf, cl⟩ := lfacts hA.1
  have hL : ∀ n, (Instr.lookup 107 (.map (some m)) (.agg #[.int .i64 r.1.1, .int .u32 r.1.2]) true).run Tryz.prog ((w.alloc (.cells #[.int .i64 r.1.1, .int .u32 r.1.2] 30)).drewN n) = .ok (.tuple #[.int .u64 ((lkp l r).getD w0).1, .bool (lkp l r).isSome]) ((w.alloc (.cells #[.int .i64 r.1.1, .int .u32 r.1.2] 30)).drewN n) := fun n => lk_run (hA.2.same (by simp)) r
  have HT := hid (there_yes b m tk _ hA.1)
  have HL := hid h
  have hlt := h.lt
  have hne := h.ne
  clear h
  unfold addL okRef
  generalize hs : (lkp l r).isSome = s at hL
  generalize (lkp l r).getD w0 = y at hL
  cases h1 : decide (0 ≤ r.1.1)
  · have g1 : decide (r.1.1 < 0) = true := by simp at h1 ⊢; omega
    simp only [Bool.false_and, Bool.false_eq_true, if_false]
    clear hs h1
    go_enter Tryz.func56, Tryz.ntmps56
    go_wp2_with (go_at_call 57; refine HT.out.mono ?_; rintro e w' ⟨rfl, rfl⟩)
    go_quiet (fail)
    go_wp2
    go_ret
    exact ⟨rfl, HL.out.2.below (by (repeat (first | exact Below.refl _ _ | assumption | with_reducible refine Below.drew ?_ | with_reducible refine below_drewN ?_ | with_reducible refine Below.setCell ?_ (by first | (simp; done) | (simp; omega)) _ | with_reducible refine Below.alloc ?_ (by first | exact Nat.le_refl _ | (simp; done) | (simp; omega)) _))) hlt.2, Mod.ofBelow (by (repeat (first | exact Below.refl _ _ | assumption | with_reducible refine Below.drew ?_ | with_reducible refine below_drewN ?_ | with_reducible refine Below.setCell ?_ (by first | (simp; done) | (simp; omega)) _ | with_reducible refine Below.alloc ?_ (by first | exact Nat.le_refl _ | (simp; done) | (simp; omega)) _)))⟩
  have g1 : decide (r.1.1 < 0) = false := by simp at h1 ⊢; omega
  cases h2 : decide (r.1.1 < 4096)
  · have g2 : decide (r.1.1 ≥ 4096) = true := by simp at h2 ⊢; omega
    simp only [Bool.and_false, Bool.false_and, Bool.false_eq_true, if_false]
    clear hs h1 h2
    go_enter Tryz.func56, Tryz.ntmps56
    go_wp2_with (go_at_call 57; refine HT.out.mono ?_; rintro e w' ⟨rfl, rfl⟩)
    go_quiet (fail)
    go_wp2
    go_ret
    exact ⟨rfl, HL.out.2.below (by (repeat (first | exact Below.refl _ _ | assumption | with_reducible refine Below.drew ?_ | with_reducible refine below_drewN ?_ | with_reducible refine Below.setCell ?_ (by first | (simp; done) | (simp; omega)) _ | with_reducible refine Below.alloc ?_ (by first | exact Nat.le_refl _ | (simp; done) | (simp; omega)) _))) hlt.2, Mod.ofBelow (by (repeat (first | exact Below.refl _ _ | assumption | with_reducible refine Below.drew ?_ | with_reducible refine below_drewN ?_ | with_reducible refine Below.setCell ?_ (by first | (simp; done) | (simp; omega)) _ | with_reducible refine Below.alloc ?_ (by first | exact Nat.le_refl _ | (simp; done) | (simp; omega)) _)))⟩
  have g2 : decide (r.1.1 ≥ 4096) = false := by simp at h2 ⊢; omega
  cases h3 : decide (1 ≤ r.1.2)
  · have g3 : decide (r.1.2 < 1) = true := by simp at h3 ⊢; omega
    simp only [Bool.and_false, Bool.false_eq_true, if_false]
    clear hs h1 h2 h3
    go_enter Tryz.func56, Tryz.ntmps56
    go_wp2_with (go_at_call 57; refine HT.out.mono ?_; rintro e w' ⟨rfl, rfl⟩)
    go_quiet (fail)
    go_wp2
    go_ret
    exact ⟨rfl, HL.out.2.below (by (repeat (first | exact Below.refl _ _ | assumption | with_reducible refine Below.drew ?_ | with_reducible refine below_drewN ?_ | with_reducible refine Below.setCell ?_ (by first | (simp; done) | (simp; omega)) _ | with_reducible refine Below.alloc ?_ (by first | exact Nat.le_refl _ | (simp; done) | (simp; omega)) _))) hlt.2, Mod.ofBelow (by (repeat (first | exact Below.refl _ _ | assumption | with_reducible refine Below.drew ?_ | with_reducible refine below_drewN ?_ | with_reducible refine Below.setCell ?_ (by first | (simp; done) | (simp; omega)) _ | with_reducible refine Below.alloc ?_ (by first | exact Nat.le_refl _ | (simp; done) | (simp; omega)) _)))⟩
  have g3 : decide (r.1.2 < 1) = false := by simp at h3 ⊢; omega
  simp only [Bool.and_true, if_true]
  clear h1 h2 h3
  cases s
  · have HS := hid (set_new hs)
    clear hs
    simp only [Bool.false_eq_true, if_false]
    go_enter Tryz.func56, Tryz.ntmps56
    go_wp2_with (go_at_call 57; refine HT.out.mono ?_; rintro e w' ⟨rfl, rfl⟩)
    go_quiet (fail)
    go_wp2
    have hB : Below w.heap.size w (((w.alloc (.cells #[.int .i64 r.1.1, .int .u32 r.1.2] 30)).drewN nq)) := by (repeat (first | exact Below.refl _ _ | assumption | with_reducible refine Below.drew ?_ | with_reducible refine below_drewN ?_ | with_reducible refine Below.setCell ?_ (by first | (simp; done) | (simp; omega)) _ | with_reducible refine Below.alloc ?_ (by first | exact Nat.le_refl _ | (simp; done) | (simp; omega)) _))
    have hN2 : (((w.alloc (.cells #[.int .i64 r.1.1, .int .u32 r.1.2] 30)).drewN nq)).heap[w.heap.size]? = some (.cells #[.int .i64 r.1.1, .int .u32 r.1.2] 30) := hN
    have HN := hid hN2
    have HP := hid (HL.out.keep hB)
    have HB := hid hB
    have hz2 : w.heap.size < (((w.alloc (.cells #[.int .i64 r.1.1, .int .u32 r.1.2] 30)).drewN nq)).heap.size := lt_of_block HN.out
    clear hL hA hN hN2 c0 c1 cf cl hB HT
    generalize ((w.alloc (.cells #[.int .i64 r.1.1, .int .u32 r.1.2] 30)).drewN nq) = w2 at *
    refine wp_region_seqI 7 (Turn 6 (fun w1 => Below w2.heap.size w2 w1) (fun w1 => MapOf refV wV w1 m (setKV l r w0) ∧ Mod (· = m) w2 w1)) (by kernel_rfl) (by kernel_rfl) (by kernel_rfl) (Turn.start ⟨rfl, rfl, rfl, Nat.le_refl _, fun _ _ => rfl⟩) ?_
    dsimp only [List.take]
    iterate 6
      refine Seq.calm (a' := ?_) (by decide) ?_ ?_ ?_
      rotate_left
      ·
        intro w1 hw1
        have hk : w1.heap[b]? = some (LBlk (some m) tk) ∧ w1.heap[w.heap.size]? = some (.cells #[.int .i64 r.1.1, .int .u32 r.1.2] 30) := by
          rcases hw1 with h | h
          · exact ⟨blk_below HP.out.1 h HP.out.lt.1, blk_below HN.out h hz2⟩
          · exact ⟨(h.2.block _ HP.out.lt.1 hne).trans HP.out.1, (h.2.block _ hz2 (by omega)).trans HN.out⟩
        have n0 := cell_of hk.2 0
        have n1 := cell_of hk.2 1
        obtain ⟨c0, c1, cf, cl⟩ := lfacts hk.1
        clear hk hw1
        go_wp2_with (fail)
        refine ⟨?_, id, id⟩
        exact rfl
      · kernel_rfl
    refine Seq.turn (a' := ?_) ?_ ?_ ?_
    rotate_left
    ·
      intro w1 hw1
      have hM1 := HP.out.2.below hw1 HP.out.lt.2
      have HB1 := hid hw1
      clear hw1
      refine wpList_store_map rfl _ _ _ _ rfl refKey Tryz.underlying107 rfl r rfl w0 rfl hM1 ?_
      intro w3 hM3 hX3
      refine ⟨?_, hM3, (Mod.ofBelow (S := (· = m)) HB1.out).trans hX3 (fun _ _ h => h)⟩
      exact rfl
    · kernel_rfl
    iterate 0
      refine Seq.calm (a' := ?_) (by decide) ?_ ?_ ?_
      rotate_left
      ·
        intro w1 hw1
        have hk : w1.heap[b]? = some (LBlk (some m) tk) ∧ w1.heap[w.heap.size]? = some (.cells #[.int .i64 r.1.1, .int .u32 r.1.2] 30) := by
          rcases hw1 with h | h
          · exact ⟨blk_below HP.out.1 h HP.out.lt.1, blk_below HN.out h hz2⟩
          · exact ⟨(h.2.block _ HP.out.lt.1 hne).trans HP.out.1, (h.2.block _ hz2 (by omega)).trans HN.out⟩
        have n0 := cell_of hk.2 0
        have n1 := cell_of hk.2 1
        obtain ⟨c0, c1, cf, cl⟩ := lfacts hk.1
        clear hk hw1
        go_wp2_with (fail)
        refine ⟨?_, id, id⟩
        exact rfl
      · kernel_rfl
    refine SeqI.nil ?_
    intro D w1 hD hI
    replace hI := hI.done (hD 6 (by omega))
    clear hD
    dsimp only [List.drop]
    go_wp2_with fail
    go_ret
    rw [HS.out] at hI
    exact ⟨rfl, hI.1, (Mod.ofBelow (S := (· = m)) HB.out).trans hI.2 (fun _ _ h => h)⟩
  · clear hs
    simp only [if_true]
    go_enter Tryz.func56, Tryz.ntmps56
    go_wp2_with (go_at_call 57; refine HT.out.mono ?_; rintro e w' ⟨rfl, rfl⟩)
    go_quiet (fail)
    go_wp2
    go_ret
    exact ⟨rfl, HL.out.2.below (by (repeat (first | exact Below.refl _ _ | assumption | with_reducible refine Below.drew ?_ | with_reducible refine below_drewN ?_ | with_reducible refine Below.setCell ?_ (by first | (simp; done) | (simp; omega)) _ | with_reducible refine Below.alloc ?_ (by first | exact Nat.le_refl _ | (simp; done) | (simp; omega)) _))) hlt.2, Mod.ofBelow (by (repeat (first | exact Below.refl _ _ | assumption | with_reducible refine Below.drew ?_ | with_reducible refine below_drewN ?_ | with_reducible refine Below.setCell ?_ (by first | (simp; done) | (simp; omega)) _ | with_reducible refine Below.alloc ?_ (by first | exact Nat.le_refl _ | (simp; done) | (simp; omega)) _)))⟩
end
end Go.Proofs.YtnngicopphiaaaaGreatDoor.K

namespace Go.Proofs.YtnngicopphiaaaaGreatDoor.T
set_option maxRecDepth 8000
open Go.ChangeShapes Go.WideShapes Go.ChangeAt Go.RowKit Go.Burg
open Go.Burg.Lk
structure TreeAt (w : World) (t sb sg kb km : Nat) (l : List (Cel Nd)) (L : List (RefK × Wd)) (tk : Int) : Prop where
  ht : w.heap[t]? = some (.cells #[.pointer (some ⟨sb, 0, none⟩), .pointer (some ⟨kb, 0, none⟩)] 67 (0, 0))
  hs : SlabN 124 106 w sb sg l
  hk : K.LocksAt w kb km L tk
theorem tmade_at {t : Nat} {a b : Nat} (w : World) (h : w.heap[t]? = some (.cells #[.pointer (some ⟨a, 0, none⟩), .pointer (some ⟨b, 0, none⟩)] 67 (0, 0))) : Calls Tryz.prog 23 #[.pointer (some ⟨t, 0, none⟩)] w fun e w' => e = .returned (.bool true) ∧ w = w' := by
  have c0 := cell_of h 0
  go_enter Tryz.func23, Tryz.ntmps23
  go_wp2
  go_ret
  exact ⟨rfl, rfl⟩
theorem set_at {w : World} {b i : Nat} {v : Value} {cs cs' : Array Value} {T : TypeId} {fz : Nat × Nat} (h : w.heap[b]? = some (.cells cs T fz)) (e : cs.setIfInBounds i v = cs') :
    (w.setCell ⟨b, i, none⟩ v).heap[b]? = some (.cells cs' T fz) := by rw [heap_set h, e]
theorem ne_of {w : World} {a b : Nat} {o p : Obj} (ha : w.heap[a]? = some o) (hb : w.heap[b]? = some p) (h : o ≠ p) : a ≠ b := fun e => by
  subst e
  rw [ha] at hb
  exact h (Option.some.inj hb)
section
variable {w w' : World} {t sb sg kb km : Nat} {l : List (Cel Nd)} {L : List (RefK × Wd)} {tk : Int}
theorem TreeAt.keep (h : TreeAt w t sb sg kb km l L tk) (hb : Below w.heap.size w w') : TreeAt w' t sb sg kb km l L tk := ⟨blk_below h.ht hb (lt_of_block h.ht), h.hs.keep hb, h.hk.keep hb⟩
theorem TreeAt.alloc (h : TreeAt w t sb sg kb km l L tk) (o : Obj) : TreeAt (w.alloc o) t sb sg kb km l L tk := ⟨blk_alloc h.ht, h.hs.alloc o, h.hk.alloc o⟩
theorem TreeAt.mod {S : Nat → Prop} (h : TreeAt w t sb sg kb km l L tk) (hM : Mod S w w') (h1 : ¬ S t) (h2 : ¬ S sb) (h3 : ¬ S sg) (h4 : ¬ S kb) (h5 : ¬ S km) : TreeAt w' t sb sg kb km l L tk :=
  ⟨(hM.block t (lt_of_block h.ht) h1).trans h.ht, h.hs.mod hM h2 h3, h.hk.mod hM h4 h5⟩
theorem TreeAt.ne (h : TreeAt w t sb sg kb km l L tk) : t ≠ sg ∧ t ≠ km ∧ sb ≠ km ∧ sb ≠ sg ∧ kb ≠ sg ∧ kb ≠ km ∧ sg ≠ km := by
  obtain ⟨cs, hg, _⟩ := h.hs.hc.hg
  obtain ⟨es, c, hm, _⟩ := h.hk.2
  exact ⟨ne_of h.ht hg (by simp), ne_of h.ht hm (by simp), ne_of h.hs.hb hm (by simp), ne_of h.hs.hb hg (by simp), ne_of h.hk.1 hg (by simp [K.LBlk]), ne_of h.hk.1 hm (by simp [K.LBlk]), ne_of hg hm (by simp)⟩
end
def TOwn (sg km : Nat) (i : Nat) : Prop := i = sg ∨ i = km
end Go.Proofs.YtnngicopphiaaaaGreatDoor.T
