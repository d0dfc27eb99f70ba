/- Part 47 of 51 of a proof: lemmas on the functions that it reaches. -/
import Derived.Test.YtnngicopphiaaaaGreatDoorC25
namespace Go.Proofs.YtnngicopphiaaaaGreatDoor.K
set_option maxRecDepth 8000
open Go.ChangeShapes Go.WideShapes Go.ChangeAt Go.RowKit Go.Burg
open Go.Burg.Lk
section
variable {w : World} {b m : Nat} {l : List (RefK × Wd)} {tk : Int}
theorem done_drop (h : LocksAt w b m l tk) (r : RefK) : Calls Tryz.prog 63 #[.pointer (some ⟨b, 0, none⟩), .agg #[.int .i64 r.1.1, .int .u32 r.1.2], .func (.func 64) #[] #[]] w fun e w' => e = .returned (.int .i64 (turnL l r Wd.drop).1) ∧ MapOf refV wV w' m (turnL l r Wd.drop).2 ∧ Mod (· = m) w w' := by
  have HT := hid (there_yes b m tk _ (h.alloc (.cells #[.int .i64 r.1.1, .int .u32 r.1.2] 30)).1)
  have HU := hid (fun (w1 : World) (h : LocksAt w1 b m l tk) => turn_drop h r)
  have HA := hid (h.alloc (.cells #[.int .i64 r.1.1, .int .u32 r.1.2] 30))
  have HN := hid (heap_new w (.cells #[.int .i64 r.1.1, .int .u32 r.1.2] 30))
  have hlt := h.lt
  clear h
  go_enter Tryz.func63, Tryz.ntmps63
  go_wp2_with (go_at_call 57; refine HT.out.mono ?_; rintro e w' ⟨rfl, rfl⟩)
  refine wp_region_seqI 6 (Turn 5 (fun w1 => Below (w.alloc (.cells #[.int .i64 r.1.1, .int .u32 r.1.2] 30)).heap.size (w.alloc (.cells #[.int .i64 r.1.1, .int .u32 r.1.2] 30)) w1) (fun w1 => MapOf refV wV w1 m (turnL l r Wd.drop).2 ∧ Mod (· = m) (w.alloc (.cells #[.int .i64 r.1.1, .int .u32 r.1.2] 30)) w1)) (by kernel_rfl) (by kernel_rfl) (by kernel_rfl) (Turn.start ⟨rfl, rfl, rfl, Nat.le_refl _, fun _ _ => rfl⟩) ?_
  dsimp only [List.take]
  iterate 5
    refine Seq.calm (a' := ?_) (by decide) ?_ ?_ ?_
    rotate_left
    ·
      intro w1 hw1
      have hk : w1.heap[b]? = some (LBlk (some m) tk) ∧ w1.heap[w.heap.size]? = some (.cells #[.int .i64 r.1.1, .int .u32 r.1.2] 30) := by
        rcases hw1 with h | h
        · exact ⟨blk_below HA.out.1 h HA.out.lt.1, blk_below HN.out h (by simp)⟩
        · exact ⟨(h.2.block _ HA.out.lt.1 HA.out.ne).trans HA.out.1, (h.2.block _ (by simp) (by omega)).trans HN.out⟩
      have n0 := cell_of hk.2 0
      have n1 := cell_of hk.2 1
      obtain ⟨c0, c1, cf, cl⟩ := lfacts hk.1
      clear hk hw1
      go_wp2_with (fail)
      refine ⟨?_, id, id⟩
      exact rfl
    · kernel_rfl
  refine Seq.turn (a' := ?_) ?_ ?_ ?_
  rotate_left
  ·
    intro w1 hw1
    have hP1 := HA.out.keep hw1
    have HB1 := hid hw1
    clear hw1
    go_wp2_with (go_at_call 60; refine (HU.out _ hP1).mono ?_; rintro e w3 ⟨rfl, hM3, hX3⟩)
    refine ⟨?_, hM3, (Mod.ofBelow (S := (· = m)) HB1.out).trans hX3 (fun _ _ h => h)⟩
    exact rfl
  · kernel_rfl
  iterate 0
    refine Seq.calm (a' := ?_) (by decide) ?_ ?_ ?_
    rotate_left
    ·
      intro w1 hw1
      have hk : w1.heap[b]? = some (LBlk (some m) tk) ∧ w1.heap[w.heap.size]? = some (.cells #[.int .i64 r.1.1, .int .u32 r.1.2] 30) := by
        rcases hw1 with h | h
        · exact ⟨blk_below HA.out.1 h HA.out.lt.1, blk_below HN.out h (by simp)⟩
        · exact ⟨(h.2.block _ HA.out.lt.1 HA.out.ne).trans HA.out.1, (h.2.block _ (by simp) (by omega)).trans HN.out⟩
      have n0 := cell_of hk.2 0
      have n1 := cell_of hk.2 1
      obtain ⟨c0, c1, cf, cl⟩ := lfacts hk.1
      clear hk hw1
      go_wp2_with (fail)
      refine ⟨?_, id, id⟩
      exact rfl
    · kernel_rfl
  refine SeqI.nil ?_
  intro D w1 hD hI
  replace hI := hI.done (hD 5 (by omega))
  clear hD
  dsimp only [List.drop]
  go_wp2_with fail
  go_ret
  exact ⟨rfl, hI.1, Mod.trans (S := (· = m)) ((Mod.refl _ w).alloc _) hI.2 (fun _ _ h => h)⟩
theorem done_done (h : LocksAt w b m l tk) (r : RefK) : Calls Tryz.prog 63 #[.pointer (some ⟨b, 0, none⟩), .agg #[.int .i64 r.1.1, .int .u32 r.1.2], .func (.func 65) #[] #[]] w fun e w' => e = .returned (.int .i64 (turnL l r Wd.done).1) ∧ MapOf refV wV w' m (turnL l r Wd.done).2 ∧ Mod (· = m) w w' := by
  have HT := hid (there_yes b m tk _ (h.alloc (.cells #[.int .i64 r.1.1, .int .u32 r.1.2] 30)).1)
  have HU := hid (fun (w1 : World) (h : LocksAt w1 b m l tk) => turn_done h r)
  have HA := hid (h.alloc (.cells #[.int .i64 r.1.1, .int .u32 r.1.2] 30))
  have HN := hid (heap_new w (.cells #[.int .i64 r.1.1, .int .u32 r.1.2] 30))
  have hlt := h.lt
  clear h
  go_enter Tryz.func63, Tryz.ntmps63
  go_wp2_with (go_at_call 57; refine HT.out.mono ?_; rintro e w' ⟨rfl, rfl⟩)
  refine wp_region_seqI 6 (Turn 5 (fun w1 => Below (w.alloc (.cells #[.int .i64 r.1.1, .int .u32 r.1.2] 30)).heap.size (w.alloc (.cells #[.int .i64 r.1.1, .int .u32 r.1.2] 30)) w1) (fun w1 => MapOf refV wV w1 m (turnL l r Wd.done).2 ∧ Mod (· = m) (w.alloc (.cells #[.int .i64 r.1.1, .int .u32 r.1.2] 30)) w1)) (by kernel_rfl) (by kernel_rfl) (by kernel_rfl) (Turn.start ⟨rfl, rfl, rfl, Nat.le_refl _, fun _ _ => rfl⟩) ?_
  dsimp only [List.take]
  iterate 5
    refine Seq.calm (a' := ?_) (by decide) ?_ ?_ ?_
    rotate_left
    ·
      intro w1 hw1
      have hk : w1.heap[b]? = some (LBlk (some m) tk) ∧ w1.heap[w.heap.size]? = some (.cells #[.int .i64 r.1.1, .int .u32 r.1.2] 30) := by
        rcases hw1 with h | h
        · exact ⟨blk_below HA.out.1 h HA.out.lt.1, blk_below HN.out h (by simp)⟩
        · exact ⟨(h.2.block _ HA.out.lt.1 HA.out.ne).trans HA.out.1, (h.2.block _ (by simp) (by omega)).trans HN.out⟩
      have n0 := cell_of hk.2 0
      have n1 := cell_of hk.2 1
      obtain ⟨c0, c1, cf, cl⟩ := lfacts hk.1
      clear hk hw1
      go_wp2_with (fail)
      refine ⟨?_, id, id⟩
      exact rfl
    · kernel_rfl
  refine Seq.turn (a' := ?_) ?_ ?_ ?_
  rotate_left
  ·
    intro w1 hw1
    have hP1 := HA.out.keep hw1
    have HB1 := hid hw1
    clear hw1
    go_wp2_with (go_at_call 60; refine (HU.out _ hP1).mono ?_; rintro e w3 ⟨rfl, hM3, hX3⟩)
    refine ⟨?_, hM3, (Mod.ofBelow (S := (· = m)) HB1.out).trans hX3 (fun _ _ h => h)⟩
    exact rfl
  · kernel_rfl
  iterate 0
    refine Seq.calm (a' := ?_) (by decide) ?_ ?_ ?_
    rotate_left
    ·
      intro w1 hw1
      have hk : w1.heap[b]? = some (LBlk (some m) tk) ∧ w1.heap[w.heap.size]? = some (.cells #[.int .i64 r.1.1, .int .u32 r.1.2] 30) := by
        rcases hw1 with h | h
        · exact ⟨blk_below HA.out.1 h HA.out.lt.1, blk_below HN.out h (by simp)⟩
        · exact ⟨(h.2.block _ HA.out.lt.1 HA.out.ne).trans HA.out.1, (h.2.block _ (by simp) (by omega)).trans HN.out⟩
      have n0 := cell_of hk.2 0
      have n1 := cell_of hk.2 1
      obtain ⟨c0, c1, cf, cl⟩ := lfacts hk.1
      clear hk hw1
      go_wp2_with (fail)
      refine ⟨?_, id, id⟩
      exact rfl
    · kernel_rfl
  refine SeqI.nil ?_
  intro D w1 hD hI
  replace hI := hI.done (hD 5 (by omega))
  clear hD
  dsimp only [List.drop]
  go_wp2_with fail
  go_ret
  exact ⟨rfl, hI.1, Mod.trans (S := (· = m)) ((Mod.refl _ w).alloc _) hI.2 (fun _ _ h => h)⟩
theorem drop_at0 (h : LocksAt w b m l tk) (r : RefK) : Calls Tryz.prog 28 #[.pointer (some ⟨b, 0, none⟩), .agg #[.int .i64 r.1.1, .int .u32 r.1.2]] w fun e w' => e = .returned (.int .i64 (turnL l r Wd.drop).1) ∧ MapOf refV wV w' m (turnL l r Wd.drop).2 ∧ Mod (· = m) w w' := by
  have hA := h.alloc (.cells #[.int .i64 r.1.1, .int .u32 r.1.2] 30)
  have HD := hid (done_drop hA r)
  clear h
  go_enter Tryz.func28, Tryz.ntmps28
  go_wp2_with (go_at_call 63; refine HD.out.mono ?_; rintro e w1 ⟨rfl, hM, hX⟩)
  go_ret
  exact ⟨rfl, hM, Mod.trans (S := (· = m)) ((Mod.refl _ w).alloc _) hX (fun _ _ h => h)⟩
theorem done_at0 (h : LocksAt w b m l tk) (r : RefK) : Calls Tryz.prog 29 #[.pointer (some ⟨b, 0, none⟩), .agg #[.int .i64 r.1.1, .int .u32 r.1.2]] w fun e w' => e = .returned (.int .i64 (turnL l r Wd.done).1) ∧ MapOf refV wV w' m (turnL l r Wd.done).2 ∧ Mod (· = m) w w' := by
  have hA := h.alloc (.cells #[.int .i64 r.1.1, .int .u32 r.1.2] 30)
  have HD := hid (done_done hA r)
  clear h
  go_enter Tryz.func29, Tryz.ntmps29
  go_wp2_with (go_at_call 63; refine HD.out.mono ?_; rintro e w1 ⟨rfl, hM, hX⟩)
  go_ret
  exact ⟨rfl, hM, Mod.trans (S := (· = m)) ((Mod.refl _ w).alloc _) hX (fun _ _ h => h)⟩
structure LkMid (W : World) (n m : Nat) (l l' : List (RefK × Wd)) (x : Wd) (b1 b2 : Bool) (w1 : World) : Prop where
  mod : Mod (· = m) W w1
  new : b1 = false → w1.heap.size = n
  fn : b1 = true → w1.heap[n]? = some (.cells #[.int .u64 x.1] 34) ∧ w1.heap[n + 1]? = some (.cells #[.func (.func 62) #[] #[]] 118)
  map : MapOf refV wV w1 m (if b2 then l' else l)
set_option maxHeartbeats 1000000 in
theorem lock_at0 (h : LocksAt w b m l tk) (r : RefK) (x : Wd) (hq : tk < 4000000000) (hq0 : 0 ≤ tk) : Calls Tryz.prog 26 #[.pointer (some ⟨b, 0, none⟩), .agg #[.int .i64 r.1.1, .int .u32 r.1.2], .int .u64 x.1] w fun e w' => e = .returned (.bool (lockL l r x).1) ∧
    LocksAt w' b m (lockL l r x).2 (if (lockL l r x).1 then tk + 1 else tk) ∧ Mod (Own b m) w w' := by
  have HT := hid (fun (w1 : World) (h : w1.heap[b]? = some (LBlk (some m) tk)) => there_yes b m tk w1 h)
  have HU := hid (fun (w1 : World) (h : LocksAt w1 b m l tk) (h1 : w1.heap[w.heap.size + 1]? = some (.cells #[.int .u64 x.1] 34)) (h2 : w1.heap[w.heap.size + 1 + 1]? = some (.cells #[.func (.func 62) #[] #[]] 118)) => turn_only h r _ _ x h1 h2)
  have HA := hid (h.alloc (.cells #[.int .i64 r.1.1, .int .u32 r.1.2] 30))
  have HN := hid (heap_new w (.cells #[.int .i64 r.1.1, .int .u32 r.1.2] 30))
  have hlt := h.lt
  have hne := h.ne
  unfold lockL
  simp only []
  generalize turnL l r (Wd.only x) = p at *
  obtain ⟨er, l'⟩ := p
  simp only [] at HU ⊢
  clear h
  by_cases hz : er = 0
  · subst hz
    simp only [decide_true, if_true]
    go_enter Tryz.func26, Tryz.ntmps26
    go_wp2
    refine wp_region_seqC 13 (Turn2 9 10 (fun b1 b2 w1 => LkMid (w.alloc (.cells #[.int .i64 r.1.1, .int .u32 r.1.2] 30)) (w.heap.size + 1) m l l' x b1 b2 w1)) (by kernel_rfl) (by kernel_rfl) (by kernel_rfl) (Turn2.start ⟨(Mod.refl _ _).drew, fun _ => by simp, (fun e => by cases e), HA.out.2⟩) ?_
    dsimp only [List.take]
    iterate 9
      refine SeqC.calm (a' := ?_) (by decide) (by decide) ?_ ?_ ?_
      rotate_left
      ·
        intro b1 b2 w1 ec1 ec2 ed1 ed2 hw1
        have HW1 := hid hw1
        have hk : w1.heap[b]? = some (LBlk (some m) tk) ∧ w1.heap[w.heap.size]? = some (.cells #[.int .i64 r.1.1, .int .u32 r.1.2] 30) := ⟨(HW1.out.mod.block _ HA.out.lt.1 HA.out.ne).trans HA.out.1, (HW1.out.mod.block _ (by simp) (by omega)).trans HN.out⟩
        have n0 := cell_of hk.2 0
        have n1 := cell_of hk.2 1
        have HK := hid hk.1
        obtain ⟨c0, c1, cf, cl⟩ := lfacts hk.1
        clear hk
        clear hw1 ec1 ec2 ed1 ed2
        go_wp2_with (go_at_call 57; refine (HT.out _ HK.out).mono ?_; rintro e w' ⟨rfl, rfl⟩)
        refine ⟨?_, HW1.out⟩
        exact rfl
      · kernel_rfl
    refine SeqC.fst (a' := ?_) (by decide) ?_ ?_ ?_
    rotate_left
    ·
      intro b2 w1 ed1 ed2 hw1
      obtain rfl := ed1 (by kernel_rfl)
      have HW1 := hid hw1
      have HZ := hid (hw1.new rfl)
      clear hw1 ed1 ed2
      go_wp2_with (go_at_call 61; refine (only_any x _).mono ?_; rintro e w2 ⟨rfl, hc, hd, hB⟩)
      rw [HZ.out] at hc hd ⊢
      refine ⟨?_, HW1.out.mod.trans (S' := fun _ => False) (Mod.ofBelow hB) (fun _ _ h => h.elim), (fun e => by cases e), fun _ => ⟨hc, hd⟩, HW1.out.map.below hB HW1.out.map.lt⟩
      exact rfl
    · kernel_rfl
    refine SeqC.snd (a' := ?_) (by decide) ?_ ?_ ?_
    rotate_left
    ·
      intro b1 w1 ec1 ec2 hw1
      obtain rfl := ec2 (by kernel_rfl)
      have HW1 := hid hw1
      have hk : w1.heap[b]? = some (LBlk (some m) tk) ∧ w1.heap[w.heap.size]? = some (.cells #[.int .i64 r.1.1, .int .u32 r.1.2] 30) := ⟨(HW1.out.mod.block _ HA.out.lt.1 HA.out.ne).trans HA.out.1, (HW1.out.mod.block _ (by simp) (by omega)).trans HN.out⟩
      have n0 := cell_of hk.2 0
      have n1 := cell_of hk.2 1
      have HK := hid hk.1
      obtain ⟨c0, c1, cf, cl⟩ := lfacts hk.1
      clear hk
      have HC := hid (hw1.fn rfl)
      clear hw1 ec1 ec2
      go_wp2_with (go_at_call 60; refine (HU.out _ ⟨HK.out, HW1.out.map⟩ HC.out.1 HC.out.2).mono ?_; rintro e w2 ⟨rfl, hM, hX⟩)
      refine ⟨?_, HW1.out.mod.trans hX (fun _ _ h => h), (fun e => by cases e), fun _ => ⟨(hX.block _ (lt_of_block HC.out.1) (by omega)).trans HC.out.1, (hX.block _ (lt_of_block HC.out.2) (by omega)).trans HC.out.2⟩, hM⟩
      exact rfl
    · kernel_rfl
    iterate 2
      refine SeqC.calm (a' := ?_) (by decide) (by decide) ?_ ?_ ?_
      rotate_left
      ·
        intro b1 b2 w1 ec1 ec2 ed1 ed2 hw1
        have HW1 := hid hw1
        have hk : w1.heap[b]? = some (LBlk (some m) tk) ∧ w1.heap[w.heap.size]? = some (.cells #[.int .i64 r.1.1, .int .u32 r.1.2] 30) := ⟨(HW1.out.mod.block _ HA.out.lt.1 HA.out.ne).trans HA.out.1, (HW1.out.mod.block _ (by simp) (by omega)).trans HN.out⟩
        have n0 := cell_of hk.2 0
        have n1 := cell_of hk.2 1
        have HK := hid hk.1
        obtain ⟨c0, c1, cf, cl⟩ := lfacts hk.1
        clear hk
        clear hw1 ec1 ec2 ed1 ed2
        go_wp2_with (go_at_call 57; refine (HT.out _ HK.out).mono ?_; rintro e w' ⟨rfl, rfl⟩)
        refine ⟨?_, HW1.out⟩
        exact rfl
      · kernel_rfl
    refine SeqC.nil ?_
    intro D w1 hD hI
    replace hI := hI.done (hD 9 (by omega)) (hD 10 (by omega))
    clear hD
    dsimp only [List.drop]
    have HI := hid hI
    have hk : w1.heap[b]? = some (LBlk (some m) tk) := (hI.mod.block _ HA.out.lt.1 HA.out.ne).trans HA.out.1
    obtain ⟨c0, c1, cf, cl⟩ := lfacts hk
    have HK := hid hk
    clear hI hk
    go_wp2_with fail
    go_ret
    refine ⟨rfl, ⟨?_, HI.out.map.setCell (by simpa using fun e => hne e.symm) _⟩, ?_⟩
    · have := heap_set (i := 1) (v := .int .i64 (tk + 1)) HK.out
      simpa [LBlk] using this
    · refine Mod.setCell (S := Own b m) ?_ (.inl (.inl rfl)) _
      exact ((Mod.refl (Own b m) w).alloc _).trans HI.out.mod (fun _ _ h => .inr h)
  · have g1 : (er != 0) = true := by simpa using hz
    have g2 : decide (er = 0) = false := by simpa using hz
    simp only [g2, Bool.false_eq_true, if_false]
    clear hz g2
    go_enter Tryz.func26, Tryz.ntmps26
    go_wp2
    refine wp_region_seqC 13 (Turn2 9 10 (fun b1 b2 w1 => LkMid (w.alloc (.cells #[.int .i64 r.1.1, .int .u32 r.1.2] 30)) (w.heap.size + 1) m l l' x b1 b2 w1)) (by kernel_rfl) (by kernel_rfl) (by kernel_rfl) (Turn2.start ⟨(Mod.refl _ _).drew, fun _ => by simp, (fun e => by cases e), HA.out.2⟩) ?_
    dsimp only [List.take]
    iterate 9
      refine SeqC.calm (a' := ?_) (by decide) (by decide) ?_ ?_ ?_
      rotate_left
      ·
        intro b1 b2 w1 ec1 ec2 ed1 ed2 hw1
        have HW1 := hid hw1
        have hk : w1.heap[b]? = some (LBlk (some m) tk) ∧ w1.heap[w.heap.size]? = some (.cells #[.int .i64 r.1.1, .int .u32 r.1.2] 30) := ⟨(HW1.out.mod.block _ HA.out.lt.1 HA.out.ne).trans HA.out.1, (HW1.out.mod.block _ (by simp) (by omega)).trans HN.out⟩
        have n0 := cell_of hk.2 0
        have n1 := cell_of hk.2 1
        have HK := hid hk.1
        obtain ⟨c0, c1, cf, cl⟩ := lfacts hk.1
        clear hk
        clear hw1 ec1 ec2 ed1 ed2
        go_wp2_with (go_at_call 57; refine (HT.out _ HK.out).mono ?_; rintro e w' ⟨rfl, rfl⟩)
        refine ⟨?_, HW1.out⟩
        exact rfl
      · kernel_rfl
    refine SeqC.fst (a' := ?_) (by decide) ?_ ?_ ?_
    rotate_left
    ·
      intro b2 w1 ed1 ed2 hw1
      obtain rfl := ed1 (by kernel_rfl)
      have HW1 := hid hw1
      have HZ := hid (hw1.new rfl)
      clear hw1 ed1 ed2
      go_wp2_with (go_at_call 61; refine (only_any x _).mono ?_; rintro e w2 ⟨rfl, hc, hd, hB⟩)
      rw [HZ.out] at hc hd ⊢
      refine ⟨?_, HW1.out.mod.trans (S' := fun _ => False) (Mod.ofBelow hB) (fun _ _ h => h.elim), (fun e => by cases e), fun _ => ⟨hc, hd⟩, HW1.out.map.below hB HW1.out.map.lt⟩
      exact rfl
    · kernel_rfl
    refine SeqC.snd (a' := ?_) (by decide) ?_ ?_ ?_
    rotate_left
    ·
      intro b1 w1 ec1 ec2 hw1
      obtain rfl := ec2 (by kernel_rfl)
      have HW1 := hid hw1
      have hk : w1.heap[b]? = some (LBlk (some m) tk) ∧ w1.heap[w.heap.size]? = some (.cells #[.int .i64 r.1.1, .int .u32 r.1.2] 30) := ⟨(HW1.out.mod.block _ HA.out.lt.1 HA.out.ne).trans HA.out.1, (HW1.out.mod.block _ (by simp) (by omega)).trans HN.out⟩
      have n0 := cell_of hk.2 0
      have n1 := cell_of hk.2 1
      have HK := hid hk.1
      obtain ⟨c0, c1, cf, cl⟩ := lfacts hk.1
      clear hk
      have HC := hid (hw1.fn rfl)
      clear hw1 ec1 ec2
      go_wp2_with (go_at_call 60; refine (HU.out _ ⟨HK.out, HW1.out.map⟩ HC.out.1 HC.out.2).mono ?_; rintro e w2 ⟨rfl, hM, hX⟩)
      refine ⟨?_, HW1.out.mod.trans hX (fun _ _ h => h), (fun e => by cases e), fun _ => ⟨(hX.block _ (lt_of_block HC.out.1) (by omega)).trans HC.out.1, (hX.block _ (lt_of_block HC.out.2) (by omega)).trans HC.out.2⟩, hM⟩
      exact rfl
    · kernel_rfl
    iterate 2
      refine SeqC.calm (a' := ?_) (by decide) (by decide) ?_ ?_ ?_
      rotate_left
      ·
        intro b1 b2 w1 ec1 ec2 ed1 ed2 hw1
        have HW1 := hid hw1
        have hk : w1.heap[b]? = some (LBlk (some m) tk) ∧ w1.heap[w.heap.size]? = some (.cells #[.int .i64 r.1.1, .int .u32 r.1.2] 30) := ⟨(HW1.out.mod.block _ HA.out.lt.1 HA.out.ne).trans HA.out.1, (HW1.out.mod.block _ (by simp) (by omega)).trans HN.out⟩
        have n0 := cell_of hk.2 0
        have n1 := cell_of hk.2 1
        have HK := hid hk.1
        obtain ⟨c0, c1, cf, cl⟩ := lfacts hk.1
        clear hk
        clear hw1 ec1 ec2 ed1 ed2
        go_wp2_with (go_at_call 57; refine (HT.out _ HK.out).mono ?_; rintro e w' ⟨rfl, rfl⟩)
        refine ⟨?_, HW1.out⟩
        exact rfl
      · kernel_rfl
    refine SeqC.nil ?_
    intro D w1 hD hI
    replace hI := hI.done (hD 9 (by omega)) (hD 10 (by omega))
    clear hD
    dsimp only [List.drop]
    have HI := hid hI
    have hk : w1.heap[b]? = some (LBlk (some m) tk) := (hI.mod.block _ HA.out.lt.1 HA.out.ne).trans HA.out.1
    obtain ⟨c0, c1, cf, cl⟩ := lfacts hk
    have HK := hid hk
    clear hI hk
    go_wp2_with fail
    go_ret
    exact ⟨rfl, ⟨HK.out, HI.out.map⟩, ((Mod.refl (Own b m) w).alloc _).trans HI.out.mod (fun _ _ h => .inr h)⟩
end
end Go.Proofs.YtnngicopphiaaaaGreatDoor.K

namespace Go.Burg.Lk
theorem countP_erase {α : Type} {p : α → Bool} {l : List α} {j : Nat} {x : α} (h : l[j]? = some x) : l.countP p = (l.eraseIdx j).countP p + if p x then 1 else 0 := by
  induction l generalizing j with
  | nil => simp at h
  | cons y l ih =>
    cases j with
    | zero => simp at h; subst h; simp [List.countP_cons]
    | succ j =>
      have := ih (j := j) (by simpa using h)
      simp only [List.eraseIdx_cons_succ, List.countP_cons]
      omega
end Go.Burg.Lk
namespace Go.Proofs.YtnngicopphiaaaaGreatDoor.K
set_option maxRecDepth 8000
open Go.ChangeShapes Go.WideShapes Go.ChangeAt Go.RowKit Go.Burg
open Go.Burg.Lk
section
variable {w : World} {b m : Nat} {l : List (RefK × Wd)} {tk : Int}
def heldL (l : List (RefK × Wd)) : Nat := l.countP (fun x => x.2.held)
set_option maxHeartbeats 1000000 in
theorem held_at (h : LocksAt w b m l tk) (hn : l.length ≤ 100000) : Calls Tryz.prog 32 #[.pointer (some ⟨b, 0, none⟩)] w fun e w' => e = .returned (.int .i64 (heldL l)) ∧ Below w.heap.size w w' := by
  have h1 := h.1
  have h2 := h.2
  have HT := hid (there_yes b m tk w h.1)
  have hlt := h.lt
  clear h
  obtain ⟨c0, c1, cf, cl⟩ := lfacts h1
  go_enter Tryz.func32, Tryz.ntmps32
  go_wp2_with (first | (go_at_call 57; refine HT.out.mono ?_; rintro e w' ⟨rfl, rfl⟩) | (at_range; refine wpList_range_map rfl _ _ rfl Tryz.underlying107 rfl h2 ?_; intro w0 hB0 hz0 hI0))
  go_frame
  have HI0 := hid hI0
  have HB0 := hid hB0
  clear hI0 hB0 h1 h2 c0 c1 cf cl
  go_loopw [2] (fun nv wr => ∃ left : List (RefK × Wd), nv = .int .i64 ((heldL l - heldL left : Nat) : Int) ∧ heldL left ≤ heldL l ∧ heldL l ≤ 100000 ∧ IterOf refV wV wr m w.heap.size left ∧ Below w.heap.size w wr) (fun _ wr => wr.rangeLeft m w.heap.size)
  case atStart => exact ⟨l, by simp, Nat.le_refl _, Nat.le_trans List.countP_le_length hn, HI0.out, HB0.out⟩
  case round =>
    obtain ⟨left, rfl, hle, hmx, hI, hB⟩ := hrel
    have HI := hid hI
    have HB := hid hB
    clear hI hB HI0 HB0
    go_wp2_with (at_next; refine wpList_next_iter rfl _ rfl rfl HI.out (fun hl0 => ?_) (fun j x w1 hx hI1 hM1 hz1 hen0 => ?_); rotate_left; have hen : (Instr.entry (.pointer (some ⟨w.heap.size, 0, none⟩))).run Tryz.prog w1 = .ok (.tuple #[refV x.1, .int .u64 x.2.1]) w1 := hen0; replace hx := hid hx; replace hM1 := hid hM1; clear hen0; rotate_right)
    · subst hl0
      go_ret
      exact ⟨by simp [heldL], HB.out⟩
    · have hB1 : Below w.heap.size w w1 := HB.out.trans (hM1.out.below HB.out.size (by omega))
      have hc : heldL left = heldL (left.eraseIdx j) + if x.2.held then 1 else 0 := countP_erase hx.out
      have hlen : (left.eraseIdx j).length < left.length := by
        have := (List.getElem?_eq_some_iff.1 hx.out).1
        rw [List.length_eraseIdx]
        split <;> omega
      have HI1 := hid hI1
      have HB1 := hid hB1
      have HC := hid hc
      have HLEN := hid hlen
      have HD := hid (fun w => Dead_any x.2 w)
      have HL := hid (fun w => Locked_any x.2 w)
      clear hM1 hx hc hlen hI1 hB1 hz1
      unfold Wd.held at HC
      cases hd : x.2.dead <;> cases hk : x.2.locked
      all_goals
        rw [hd] at HD HC
        rw [hk] at HL HC
        have hc := HC.out
        simp only [Bool.and_true, Bool.and_false, Bool.not_true, Bool.not_false, Bool.false_eq_true, if_false, if_true] at hc
        go_wp2_with (first | (go_at_call 58; refine (HD.out _).mono ?_; rintro e w2 ⟨rfl, hb2⟩) | (go_at_call 59; refine (HL.out _).mono ?_; rintro e w3 ⟨rfl, hb3⟩))
        go_roundw
        case rel =>
          refine ⟨left.eraseIdx j, congrArg (Value.int .i64) (by omega), by omega, hmx, ?_, ?_⟩
          · first | exact (HI1.out.keep hb3).keep hb2 | exact HI1.out.keep hb3
          · first | exact below_chain (below_chain HB1.out hb3 HB1.out.size) hb2 (Nat.le_trans HB1.out.size hb3.size) | exact below_chain HB1.out hb3 HB1.out.size
        case measure =>
          rw [HI.out.left_eq]
          first | rw [((HI1.out.keep hb3).keep hb2).left_eq] | rw [(HI1.out.keep hb3).left_eq]
          exact HLEN.out
theorem drop_at (h : LocksAt w b m l tk) (r : RefK) : Calls Tryz.prog 28 #[.pointer (some ⟨b, 0, none⟩), .agg #[.int .i64 r.1.1, .int .u32 r.1.2]] w fun e w' => e = .returned (.int .i64 (turnL l r Wd.drop).1) ∧ LocksAt w' b m (turnL l r Wd.drop).2 tk ∧ Mod (Own b m) w w' :=
  (drop_at0 h r).mono fun _ _ ⟨he, hM, hX⟩ => ⟨he, ⟨(hX.block b h.lt.1 h.ne).trans h.1, hM⟩, hX.mono fun _ _ h => .inr h⟩
theorem done_at (h : LocksAt w b m l tk) (r : RefK) : Calls Tryz.prog 29 #[.pointer (some ⟨b, 0, none⟩), .agg #[.int .i64 r.1.1, .int .u32 r.1.2]] w fun e w' => e = .returned (.int .i64 (turnL l r Wd.done).1) ∧ LocksAt w' b m (turnL l r Wd.done).2 tk ∧ Mod (Own b m) w w' :=
  (done_at0 h r).mono fun _ _ ⟨he, hM, hX⟩ => ⟨he, ⟨(hX.block b h.lt.1 h.ne).trans h.1, hM⟩, hX.mono fun _ _ h => .inr h⟩
end
end Go.Proofs.YtnngicopphiaaaaGreatDoor.K
