/- Locks in memory: Lock, Drop, Done, Kill, Held, Copy. -/
import Derived.Test.YtofkodfdgbjboaaLock5
import Derived.Shelf.SlMaps.Clone
namespace Go.Proofs.Ytofkodfdgbjboaa
open Go.ChangeShapes Go.WideShapes Go.ChangeAt Go.RowKit Go.Burg
open Go.Burg.Lk

section
variable {w : World} {b m : Nat} {l : List (RefK × Wd)} {tk : Int}

theorem done_drop (h : LocksAt w b m l tk) (r : RefK) : Calls Try.prog 32 #[.pointer (some ⟨b, 0, none⟩), .agg #[.int .i64 r.1.1, .int .u32 r.1.2], .func (.func 33) #[] #[]] w fun e w' => e = .returned (.int .i64 (turnL l r Wd.drop).1) ∧ MapOf refV wV w' m (turnL l r Wd.drop).2 ∧ Mod (· = m) w w' := by
  have HT := hid (there_yes b m tk _ (h.alloc (.cells #[.int .i64 r.1.1, .int .u32 r.1.2] 30)).1)
  have HU := hid (fun (w1 : World) (h : LocksAt w1 b m l tk) => turn_drop h r)
  have HA := hid (h.alloc (.cells #[.int .i64 r.1.1, .int .u32 r.1.2] 30))
  have HN := hid (heap_new w (.cells #[.int .i64 r.1.1, .int .u32 r.1.2] 30))
  have hlt := h.lt
  clear h
  go_enter Try.func32, Try.ntmps32
  go_wp2_with (go_at_call 26; refine HT.out.mono ?_; rintro e w' ⟨rfl, rfl⟩)
  refine wp_region_seqI 6 (Turn 5 (fun w1 => Below (w.alloc (.cells #[.int .i64 r.1.1, .int .u32 r.1.2] 30)).heap.size (w.alloc (.cells #[.int .i64 r.1.1, .int .u32 r.1.2] 30)) w1) (fun w1 => MapOf refV wV w1 m (turnL l r Wd.drop).2 ∧ Mod (· = m) (w.alloc (.cells #[.int .i64 r.1.1, .int .u32 r.1.2] 30)) w1)) (by kernel_rfl) (by kernel_rfl) (by kernel_rfl) (Turn.start ⟨rfl, rfl, rfl, Nat.le_refl _, fun _ _ => rfl⟩) ?_
  dsimp only [List.take]
  iterate 5
    refine Seq.calm (a' := ?_) (by decide) ?_ ?_ ?_
    rotate_left
    ·
      intro w1 hw1
      have hk : w1.heap[b]? = some (LBlk (some m) tk) ∧ w1.heap[w.heap.size]? = some (.cells #[.int .i64 r.1.1, .int .u32 r.1.2] 30) := by
        rcases hw1 with h | h
        · exact ⟨blk_below HA.out.1 h HA.out.lt.1, blk_below HN.out h (by simp)⟩
        · exact ⟨(h.2.block _ HA.out.lt.1 HA.out.ne).trans HA.out.1, (h.2.block _ (by simp) (by omega)).trans HN.out⟩
      have n0 := cell_of hk.2 0
      have n1 := cell_of hk.2 1
      obtain ⟨c0, c1, cf, cl⟩ := lfacts hk.1
      clear hk hw1
      go_wp2_with (fail)
      refine ⟨?_, id, id⟩
      exact rfl
    · kernel_rfl
  refine Seq.turn (a' := ?_) ?_ ?_ ?_
  rotate_left
  ·
    intro w1 hw1
    have hP1 := HA.out.keep hw1
    have HB1 := hid hw1
    clear hw1
    go_wp2_with (go_at_call 29; refine (HU.out _ hP1).mono ?_; rintro e w3 ⟨rfl, hM3, hX3⟩)
    refine ⟨?_, hM3, (Mod.ofBelow (S := (· = m)) HB1.out).trans hX3 (fun _ _ h => h)⟩
    exact rfl
  · kernel_rfl
  iterate 0
    refine Seq.calm (a' := ?_) (by decide) ?_ ?_ ?_
    rotate_left
    ·
      intro w1 hw1
      have hk : w1.heap[b]? = some (LBlk (some m) tk) ∧ w1.heap[w.heap.size]? = some (.cells #[.int .i64 r.1.1, .int .u32 r.1.2] 30) := by
        rcases hw1 with h | h
        · exact ⟨blk_below HA.out.1 h HA.out.lt.1, blk_below HN.out h (by simp)⟩
        · exact ⟨(h.2.block _ HA.out.lt.1 HA.out.ne).trans HA.out.1, (h.2.block _ (by simp) (by omega)).trans HN.out⟩
      have n0 := cell_of hk.2 0
      have n1 := cell_of hk.2 1
      obtain ⟨c0, c1, cf, cl⟩ := lfacts hk.1
      clear hk hw1
      go_wp2_with (fail)
      refine ⟨?_, id, id⟩
      exact rfl
    · kernel_rfl
  refine SeqI.nil ?_
  intro D w1 hD hI
  replace hI := hI.done (hD 5 (by omega))
  clear hD
  dsimp only [List.drop]
  go_wp2_with fail
  go_ret
  exact ⟨rfl, hI.1, Mod.trans (S := (· = m)) ((Mod.refl _ w).alloc _) hI.2 (fun _ _ h => h)⟩
theorem done_done (h : LocksAt w b m l tk) (r : RefK) : Calls Try.prog 32 #[.pointer (some ⟨b, 0, none⟩), .agg #[.int .i64 r.1.1, .int .u32 r.1.2], .func (.func 34) #[] #[]] w fun e w' => e = .returned (.int .i64 (turnL l r Wd.done).1) ∧ MapOf refV wV w' m (turnL l r Wd.done).2 ∧ Mod (· = m) w w' := by
  have HT := hid (there_yes b m tk _ (h.alloc (.cells #[.int .i64 r.1.1, .int .u32 r.1.2] 30)).1)
  have HU := hid (fun (w1 : World) (h : LocksAt w1 b m l tk) => turn_done h r)
  have HA := hid (h.alloc (.cells #[.int .i64 r.1.1, .int .u32 r.1.2] 30))
  have HN := hid (heap_new w (.cells #[.int .i64 r.1.1, .int .u32 r.1.2] 30))
  have hlt := h.lt
  clear h
  go_enter Try.func32, Try.ntmps32
  go_wp2_with (go_at_call 26; refine HT.out.mono ?_; rintro e w' ⟨rfl, rfl⟩)
  refine wp_region_seqI 6 (Turn 5 (fun w1 => Below (w.alloc (.cells #[.int .i64 r.1.1, .int .u32 r.1.2] 30)).heap.size (w.alloc (.cells #[.int .i64 r.1.1, .int .u32 r.1.2] 30)) w1) (fun w1 => MapOf refV wV w1 m (turnL l r Wd.done).2 ∧ Mod (· = m) (w.alloc (.cells #[.int .i64 r.1.1, .int .u32 r.1.2] 30)) w1)) (by kernel_rfl) (by kernel_rfl) (by kernel_rfl) (Turn.start ⟨rfl, rfl, rfl, Nat.le_refl _, fun _ _ => rfl⟩) ?_
  dsimp only [List.take]
  iterate 5
    refine Seq.calm (a' := ?_) (by decide) ?_ ?_ ?_
    rotate_left
    ·
      intro w1 hw1
      have hk : w1.heap[b]? = some (LBlk (some m) tk) ∧ w1.heap[w.heap.size]? = some (.cells #[.int .i64 r.1.1, .int .u32 r.1.2] 30) := by
        rcases hw1 with h | h
        · exact ⟨blk_below HA.out.1 h HA.out.lt.1, blk_below HN.out h (by simp)⟩
        · exact ⟨(h.2.block _ HA.out.lt.1 HA.out.ne).trans HA.out.1, (h.2.block _ (by simp) (by omega)).trans HN.out⟩
      have n0 := cell_of hk.2 0
      have n1 := cell_of hk.2 1
      obtain ⟨c0, c1, cf, cl⟩ := lfacts hk.1
      clear hk hw1
      go_wp2_with (fail)
      refine ⟨?_, id, id⟩
      exact rfl
    · kernel_rfl
  refine Seq.turn (a' := ?_) ?_ ?_ ?_
  rotate_left
  ·
    intro w1 hw1
    have hP1 := HA.out.keep hw1
    have HB1 := hid hw1
    clear hw1
    go_wp2_with (go_at_call 29; refine (HU.out _ hP1).mono ?_; rintro e w3 ⟨rfl, hM3, hX3⟩)
    refine ⟨?_, hM3, (Mod.ofBelow (S := (· = m)) HB1.out).trans hX3 (fun _ _ h => h)⟩
    exact rfl
  · kernel_rfl
  iterate 0
    refine Seq.calm (a' := ?_) (by decide) ?_ ?_ ?_
    rotate_left
    ·
      intro w1 hw1
      have hk : w1.heap[b]? = some (LBlk (some m) tk) ∧ w1.heap[w.heap.size]? = some (.cells #[.int .i64 r.1.1, .int .u32 r.1.2] 30) := by
        rcases hw1 with h | h
        · exact ⟨blk_below HA.out.1 h HA.out.lt.1, blk_below HN.out h (by simp)⟩
        · exact ⟨(h.2.block _ HA.out.lt.1 HA.out.ne).trans HA.out.1, (h.2.block _ (by simp) (by omega)).trans HN.out⟩
      have n0 := cell_of hk.2 0
      have n1 := cell_of hk.2 1
      obtain ⟨c0, c1, cf, cl⟩ := lfacts hk.1
      clear hk hw1
      go_wp2_with (fail)
      refine ⟨?_, id, id⟩
      exact rfl
    · kernel_rfl
  refine SeqI.nil ?_
  intro D w1 hD hI
  replace hI := hI.done (hD 5 (by omega))
  clear hD
  dsimp only [List.drop]
  go_wp2_with fail
  go_ret
  exact ⟨rfl, hI.1, Mod.trans (S := (· = m)) ((Mod.refl _ w).alloc _) hI.2 (fun _ _ h => h)⟩
theorem done_kill (h : LocksAt w b m l tk) (r : RefK) : Calls Try.prog 32 #[.pointer (some ⟨b, 0, none⟩), .agg #[.int .i64 r.1.1, .int .u32 r.1.2], .func (.func 35) #[] #[]] w fun e w' => e = .returned (.int .i64 (turnL l r Wd.kill).1) ∧ MapOf refV wV w' m (turnL l r Wd.kill).2 ∧ Mod (· = m) w w' := by
  have HT := hid (there_yes b m tk _ (h.alloc (.cells #[.int .i64 r.1.1, .int .u32 r.1.2] 30)).1)
  have HU := hid (fun (w1 : World) (h : LocksAt w1 b m l tk) => turn_kill h r)
  have HA := hid (h.alloc (.cells #[.int .i64 r.1.1, .int .u32 r.1.2] 30))
  have HN := hid (heap_new w (.cells #[.int .i64 r.1.1, .int .u32 r.1.2] 30))
  have hlt := h.lt
  clear h
  go_enter Try.func32, Try.ntmps32
  go_wp2_with (go_at_call 26; refine HT.out.mono ?_; rintro e w' ⟨rfl, rfl⟩)
  refine wp_region_seqI 6 (Turn 5 (fun w1 => Below (w.alloc (.cells #[.int .i64 r.1.1, .int .u32 r.1.2] 30)).heap.size (w.alloc (.cells #[.int .i64 r.1.1, .int .u32 r.1.2] 30)) w1) (fun w1 => MapOf refV wV w1 m (turnL l r Wd.kill).2 ∧ Mod (· = m) (w.alloc (.cells #[.int .i64 r.1.1, .int .u32 r.1.2] 30)) w1)) (by kernel_rfl) (by kernel_rfl) (by kernel_rfl) (Turn.start ⟨rfl, rfl, rfl, Nat.le_refl _, fun _ _ => rfl⟩) ?_
  dsimp only [List.take]
  iterate 5
    refine Seq.calm (a' := ?_) (by decide) ?_ ?_ ?_
    rotate_left
    ·
      intro w1 hw1
      have hk : w1.heap[b]? = some (LBlk (some m) tk) ∧ w1.heap[w.heap.size]? = some (.cells #[.int .i64 r.1.1, .int .u32 r.1.2] 30) := by
        rcases hw1 with h | h
        · exact ⟨blk_below HA.out.1 h HA.out.lt.1, blk_below HN.out h (by simp)⟩
        · exact ⟨(h.2.block _ HA.out.lt.1 HA.out.ne).trans HA.out.1, (h.2.block _ (by simp) (by omega)).trans HN.out⟩
      have n0 := cell_of hk.2 0
      have n1 := cell_of hk.2 1
      obtain ⟨c0, c1, cf, cl⟩ := lfacts hk.1
      clear hk hw1
      go_wp2_with (fail)
      refine ⟨?_, id, id⟩
      exact rfl
    · kernel_rfl
  refine Seq.turn (a' := ?_) ?_ ?_ ?_
  rotate_left
  ·
    intro w1 hw1
    have hP1 := HA.out.keep hw1
    have HB1 := hid hw1
    clear hw1
    go_wp2_with (go_at_call 29; refine (HU.out _ hP1).mono ?_; rintro e w3 ⟨rfl, hM3, hX3⟩)
    refine ⟨?_, hM3, (Mod.ofBelow (S := (· = m)) HB1.out).trans hX3 (fun _ _ h => h)⟩
    exact rfl
  · kernel_rfl
  iterate 0
    refine Seq.calm (a' := ?_) (by decide) ?_ ?_ ?_
    rotate_left
    ·
      intro w1 hw1
      have hk : w1.heap[b]? = some (LBlk (some m) tk) ∧ w1.heap[w.heap.size]? = some (.cells #[.int .i64 r.1.1, .int .u32 r.1.2] 30) := by
        rcases hw1 with h | h
        · exact ⟨blk_below HA.out.1 h HA.out.lt.1, blk_below HN.out h (by simp)⟩
        · exact ⟨(h.2.block _ HA.out.lt.1 HA.out.ne).trans HA.out.1, (h.2.block _ (by simp) (by omega)).trans HN.out⟩
      have n0 := cell_of hk.2 0
      have n1 := cell_of hk.2 1
      obtain ⟨c0, c1, cf, cl⟩ := lfacts hk.1
      clear hk hw1
      go_wp2_with (fail)
      refine ⟨?_, id, id⟩
      exact rfl
    · kernel_rfl
  refine SeqI.nil ?_
  intro D w1 hD hI
  replace hI := hI.done (hD 5 (by omega))
  clear hD
  dsimp only [List.drop]
  go_wp2_with fail
  go_ret
  exact ⟨rfl, hI.1, Mod.trans (S := (· = m)) ((Mod.refl _ w).alloc _) hI.2 (fun _ _ h => h)⟩

theorem drop_at0 (h : LocksAt w b m l tk) (r : RefK) : Calls Try.prog 14 #[.pointer (some ⟨b, 0, none⟩), .agg #[.int .i64 r.1.1, .int .u32 r.1.2]] w fun e w' => e = .returned (.int .i64 (turnL l r Wd.drop).1) ∧ MapOf refV wV w' m (turnL l r Wd.drop).2 ∧ Mod (· = m) w w' := by
  have hA := h.alloc (.cells #[.int .i64 r.1.1, .int .u32 r.1.2] 30)
  have HD := hid (done_drop hA r)
  clear h
  go_enter Try.func14, Try.ntmps14
  go_wp2_with (go_at_call 32; refine HD.out.mono ?_; rintro e w1 ⟨rfl, hM, hX⟩)
  go_ret
  exact ⟨rfl, hM, Mod.trans (S := (· = m)) ((Mod.refl _ w).alloc _) hX (fun _ _ h => h)⟩
theorem done_at0 (h : LocksAt w b m l tk) (r : RefK) : Calls Try.prog 15 #[.pointer (some ⟨b, 0, none⟩), .agg #[.int .i64 r.1.1, .int .u32 r.1.2]] w fun e w' => e = .returned (.int .i64 (turnL l r Wd.done).1) ∧ MapOf refV wV w' m (turnL l r Wd.done).2 ∧ Mod (· = m) w w' := by
  have hA := h.alloc (.cells #[.int .i64 r.1.1, .int .u32 r.1.2] 30)
  have HD := hid (done_done hA r)
  clear h
  go_enter Try.func15, Try.ntmps15
  go_wp2_with (go_at_call 32; refine HD.out.mono ?_; rintro e w1 ⟨rfl, hM, hX⟩)
  go_ret
  exact ⟨rfl, hM, Mod.trans (S := (· = m)) ((Mod.refl _ w).alloc _) hX (fun _ _ h => h)⟩
theorem kill_at0 (h : LocksAt w b m l tk) (r : RefK) : Calls Try.prog 16 #[.pointer (some ⟨b, 0, none⟩), .agg #[.int .i64 r.1.1, .int .u32 r.1.2]] w fun e w' => e = .returned (.int .i64 (turnL l r Wd.kill).1) ∧ MapOf refV wV w' m (turnL l r Wd.kill).2 ∧ Mod (· = m) w w' := by
  have hA := h.alloc (.cells #[.int .i64 r.1.1, .int .u32 r.1.2] 30)
  have HD := hid (done_kill hA r)
  clear h
  go_enter Try.func16, Try.ntmps16
  go_wp2_with (go_at_call 32; refine HD.out.mono ?_; rintro e w1 ⟨rfl, hM, hX⟩)
  go_ret
  exact ⟨rfl, hM, Mod.trans (S := (· = m)) ((Mod.refl _ w).alloc _) hX (fun _ _ h => h)⟩

/-- On the way through Lock's condition: is the closure made, is the word turned? -/
structure LkMid (W : World) (n m : Nat) (l l' : List (RefK × Wd)) (x : Wd) (b1 b2 : Bool) (w1 : World) : Prop where
  mod : Mod (· = m) W w1
  new : b1 = false → w1.heap.size = n
  fn : b1 = true → w1.heap[n]? = some (.cells #[.int .u64 x.1] 24) ∧ w1.heap[n + 1]? = some (.cells #[.func (.func 31) #[] #[]] 65)
  map : MapOf refV wV w1 m (if b2 then l' else l)

set_option maxHeartbeats 1000000 in
theorem lock_at0 (h : LocksAt w b m l tk) (r : RefK) (x : Wd) (hq : tk < 4000000000) (hq0 : 0 ≤ tk) : Calls Try.prog 13 #[.pointer (some ⟨b, 0, none⟩), .agg #[.int .i64 r.1.1, .int .u32 r.1.2], .int .u64 x.1] w fun e w' => e = .returned (.bool (lockL l r x).1) ∧
    LocksAt w' b m (lockL l r x).2 (if (lockL l r x).1 then tk + 1 else tk) ∧ Mod (Own b m) w w' := by
  have HT := hid (fun (w1 : World) (h : w1.heap[b]? = some (LBlk (some m) tk)) => there_yes b m tk w1 h)
  have HU := hid (fun (w1 : World) (h : LocksAt w1 b m l tk) (h1 : w1.heap[w.heap.size + 1]? = some (.cells #[.int .u64 x.1] 24)) (h2 : w1.heap[w.heap.size + 1 + 1]? = some (.cells #[.func (.func 31) #[] #[]] 65)) => turn_only h r _ _ x h1 h2)
  have HA := hid (h.alloc (.cells #[.int .i64 r.1.1, .int .u32 r.1.2] 30))
  have HN := hid (heap_new w (.cells #[.int .i64 r.1.1, .int .u32 r.1.2] 30))
  have hlt := h.lt
  have hne := h.ne
  unfold lockL
  simp only []
  generalize turnL l r (Wd.only x) = p at *
  obtain ⟨er, l'⟩ := p
  simp only [] at HU ⊢
  clear h
  by_cases hz : er = 0
  · subst hz
    simp only [decide_true, if_true]
    go_enter Try.func13, Try.ntmps13
    go_wp2
    refine wp_region_seqC 13 (Turn2 9 10 (fun b1 b2 w1 => LkMid (w.alloc (.cells #[.int .i64 r.1.1, .int .u32 r.1.2] 30)) (w.heap.size + 1) m l l' x b1 b2 w1)) (by kernel_rfl) (by kernel_rfl) (by kernel_rfl) (Turn2.start ⟨(Mod.refl _ _).drew, fun _ => by simp, (fun e => by cases e), HA.out.2⟩) ?_
    dsimp only [List.take]
    iterate 9
      refine SeqC.calm (a' := ?_) (by decide) (by decide) ?_ ?_ ?_
      rotate_left
      ·
        intro b1 b2 w1 ec1 ec2 ed1 ed2 hw1
        have HW1 := hid hw1
        have hk : w1.heap[b]? = some (LBlk (some m) tk) ∧ w1.heap[w.heap.size]? = some (.cells #[.int .i64 r.1.1, .int .u32 r.1.2] 30) := ⟨(HW1.out.mod.block _ HA.out.lt.1 HA.out.ne).trans HA.out.1, (HW1.out.mod.block _ (by simp) (by omega)).trans HN.out⟩
        have n0 := cell_of hk.2 0
        have n1 := cell_of hk.2 1
        have HK := hid hk.1
        obtain ⟨c0, c1, cf, cl⟩ := lfacts hk.1
        clear hk
        clear hw1 ec1 ec2 ed1 ed2
        go_wp2_with (go_at_call 26; refine (HT.out _ HK.out).mono ?_; rintro e w' ⟨rfl, rfl⟩)
        refine ⟨?_, HW1.out⟩
        exact rfl
      · kernel_rfl
    refine SeqC.fst (a' := ?_) (by decide) ?_ ?_ ?_
    rotate_left
    ·
      intro b2 w1 ed1 ed2 hw1
      obtain rfl := ed1 (by kernel_rfl)
      have HW1 := hid hw1
      have HZ := hid (hw1.new rfl)
      clear hw1 ed1 ed2
      go_wp2_with (go_at_call 30; refine (only_any x _).mono ?_; rintro e w2 ⟨rfl, hc, hd, hB⟩)
      rw [HZ.out] at hc hd ⊢
      refine ⟨?_, HW1.out.mod.trans (S' := fun _ => False) (Mod.ofBelow hB) (fun _ _ h => h.elim), (fun e => by cases e), fun _ => ⟨hc, hd⟩, HW1.out.map.below hB HW1.out.map.lt⟩
      exact rfl
    · kernel_rfl
    refine SeqC.snd (a' := ?_) (by decide) ?_ ?_ ?_
    rotate_left
    ·
      intro b1 w1 ec1 ec2 hw1
      obtain rfl := ec2 (by kernel_rfl)
      have HW1 := hid hw1
      have hk : w1.heap[b]? = some (LBlk (some m) tk) ∧ w1.heap[w.heap.size]? = some (.cells #[.int .i64 r.1.1, .int .u32 r.1.2] 30) := ⟨(HW1.out.mod.block _ HA.out.lt.1 HA.out.ne).trans HA.out.1, (HW1.out.mod.block _ (by simp) (by omega)).trans HN.out⟩
      have n0 := cell_of hk.2 0
      have n1 := cell_of hk.2 1
      have HK := hid hk.1
      obtain ⟨c0, c1, cf, cl⟩ := lfacts hk.1
      clear hk
      have HC := hid (hw1.fn rfl)
      clear hw1 ec1 ec2
      go_wp2_with (go_at_call 29; refine (HU.out _ ⟨HK.out, HW1.out.map⟩ HC.out.1 HC.out.2).mono ?_; rintro e w2 ⟨rfl, hM, hX⟩)
      refine ⟨?_, HW1.out.mod.trans hX (fun _ _ h => h), (fun e => by cases e), fun _ => ⟨(hX.block _ (lt_of_block HC.out.1) (by omega)).trans HC.out.1, (hX.block _ (lt_of_block HC.out.2) (by omega)).trans HC.out.2⟩, hM⟩
      exact rfl
    · kernel_rfl
    iterate 2
      refine SeqC.calm (a' := ?_) (by decide) (by decide) ?_ ?_ ?_
      rotate_left
      ·
        intro b1 b2 w1 ec1 ec2 ed1 ed2 hw1
        have HW1 := hid hw1
        have hk : w1.heap[b]? = some (LBlk (some m) tk) ∧ w1.heap[w.heap.size]? = some (.cells #[.int .i64 r.1.1, .int .u32 r.1.2] 30) := ⟨(HW1.out.mod.block _ HA.out.lt.1 HA.out.ne).trans HA.out.1, (HW1.out.mod.block _ (by simp) (by omega)).trans HN.out⟩
        have n0 := cell_of hk.2 0
        have n1 := cell_of hk.2 1
        have HK := hid hk.1
        obtain ⟨c0, c1, cf, cl⟩ := lfacts hk.1
        clear hk
        clear hw1 ec1 ec2 ed1 ed2
        go_wp2_with (go_at_call 26; refine (HT.out _ HK.out).mono ?_; rintro e w' ⟨rfl, rfl⟩)
        refine ⟨?_, HW1.out⟩
        exact rfl
      · kernel_rfl
    refine SeqC.nil ?_
    intro D w1 hD hI
    replace hI := hI.done (hD 9 (by omega)) (hD 10 (by omega))
    clear hD
    dsimp only [List.drop]
    have HI := hid hI
    have hk : w1.heap[b]? = some (LBlk (some m) tk) := (hI.mod.block _ HA.out.lt.1 HA.out.ne).trans HA.out.1
    obtain ⟨c0, c1, cf, cl⟩ := lfacts hk
    have HK := hid hk
    clear hI hk
    go_wp2_with fail
    go_ret
    refine ⟨rfl, ⟨?_, HI.out.map.setCell (by simpa using fun e => hne e.symm) _⟩, ?_⟩
    · have := heap_set (i := 1) (v := .int .i64 (tk + 1)) HK.out
      simpa [LBlk] using this
    · refine Mod.setCell (S := Own b m) ?_ (.inl (.inl rfl)) _
      exact ((Mod.refl (Own b m) w).alloc _).trans HI.out.mod (fun _ _ h => .inr h)
  · have g1 : (er != 0) = true := by simpa using hz
    have g2 : decide (er = 0) = false := by simpa using hz
    simp only [g2, Bool.false_eq_true, if_false]
    clear hz g2
    go_enter Try.func13, Try.ntmps13
    go_wp2
    refine wp_region_seqC 13 (Turn2 9 10 (fun b1 b2 w1 => LkMid (w.alloc (.cells #[.int .i64 r.1.1, .int .u32 r.1.2] 30)) (w.heap.size + 1) m l l' x b1 b2 w1)) (by kernel_rfl) (by kernel_rfl) (by kernel_rfl) (Turn2.start ⟨(Mod.refl _ _).drew, fun _ => by simp, (fun e => by cases e), HA.out.2⟩) ?_
    dsimp only [List.take]
    iterate 9
      refine SeqC.calm (a' := ?_) (by decide) (by decide) ?_ ?_ ?_
      rotate_left
      ·
        intro b1 b2 w1 ec1 ec2 ed1 ed2 hw1
        have HW1 := hid hw1
        have hk : w1.heap[b]? = some (LBlk (some m) tk) ∧ w1.heap[w.heap.size]? = some (.cells #[.int .i64 r.1.1, .int .u32 r.1.2] 30) := ⟨(HW1.out.mod.block _ HA.out.lt.1 HA.out.ne).trans HA.out.1, (HW1.out.mod.block _ (by simp) (by omega)).trans HN.out⟩
        have n0 := cell_of hk.2 0
        have n1 := cell_of hk.2 1
        have HK := hid hk.1
        obtain ⟨c0, c1, cf, cl⟩ := lfacts hk.1
        clear hk
        clear hw1 ec1 ec2 ed1 ed2
        go_wp2_with (go_at_call 26; refine (HT.out _ HK.out).mono ?_; rintro e w' ⟨rfl, rfl⟩)
        refine ⟨?_, HW1.out⟩
        exact rfl
      · kernel_rfl
    refine SeqC.fst (a' := ?_) (by decide) ?_ ?_ ?_
    rotate_left
    ·
      intro b2 w1 ed1 ed2 hw1
      obtain rfl := ed1 (by kernel_rfl)
      have HW1 := hid hw1
      have HZ := hid (hw1.new rfl)
      clear hw1 ed1 ed2
      go_wp2_with (go_at_call 30; refine (only_any x _).mono ?_; rintro e w2 ⟨rfl, hc, hd, hB⟩)
      rw [HZ.out] at hc hd ⊢
      refine ⟨?_, HW1.out.mod.trans (S' := fun _ => False) (Mod.ofBelow hB) (fun _ _ h => h.elim), (fun e => by cases e), fun _ => ⟨hc, hd⟩, HW1.out.map.below hB HW1.out.map.lt⟩
      exact rfl
    · kernel_rfl
    refine SeqC.snd (a' := ?_) (by decide) ?_ ?_ ?_
    rotate_left
    ·
      intro b1 w1 ec1 ec2 hw1
      obtain rfl := ec2 (by kernel_rfl)
      have HW1 := hid hw1
      have hk : w1.heap[b]? = some (LBlk (some m) tk) ∧ w1.heap[w.heap.size]? = some (.cells #[.int .i64 r.1.1, .int .u32 r.1.2] 30) := ⟨(HW1.out.mod.block _ HA.out.lt.1 HA.out.ne).trans HA.out.1, (HW1.out.mod.block _ (by simp) (by omega)).trans HN.out⟩
      have n0 := cell_of hk.2 0
      have n1 := cell_of hk.2 1
      have HK := hid hk.1
      obtain ⟨c0, c1, cf, cl⟩ := lfacts hk.1
      clear hk
      have HC := hid (hw1.fn rfl)
      clear hw1 ec1 ec2
      go_wp2_with (go_at_call 29; refine (HU.out _ ⟨HK.out, HW1.out.map⟩ HC.out.1 HC.out.2).mono ?_; rintro e w2 ⟨rfl, hM, hX⟩)
      refine ⟨?_, HW1.out.mod.trans hX (fun _ _ h => h), (fun e => by cases e), fun _ => ⟨(hX.block _ (lt_of_block HC.out.1) (by omega)).trans HC.out.1, (hX.block _ (lt_of_block HC.out.2) (by omega)).trans HC.out.2⟩, hM⟩
      exact rfl
    · kernel_rfl
    iterate 2
      refine SeqC.calm (a' := ?_) (by decide) (by decide) ?_ ?_ ?_
      rotate_left
      ·
        intro b1 b2 w1 ec1 ec2 ed1 ed2 hw1
        have HW1 := hid hw1
        have hk : w1.heap[b]? = some (LBlk (some m) tk) ∧ w1.heap[w.heap.size]? = some (.cells #[.int .i64 r.1.1, .int .u32 r.1.2] 30) := ⟨(HW1.out.mod.block _ HA.out.lt.1 HA.out.ne).trans HA.out.1, (HW1.out.mod.block _ (by simp) (by omega)).trans HN.out⟩
        have n0 := cell_of hk.2 0
        have n1 := cell_of hk.2 1
        have HK := hid hk.1
        obtain ⟨c0, c1, cf, cl⟩ := lfacts hk.1
        clear hk
        clear hw1 ec1 ec2 ed1 ed2
        go_wp2_with (go_at_call 26; refine (HT.out _ HK.out).mono ?_; rintro e w' ⟨rfl, rfl⟩)
        refine ⟨?_, HW1.out⟩
        exact rfl
      · kernel_rfl
    refine SeqC.nil ?_
    intro D w1 hD hI
    replace hI := hI.done (hD 9 (by omega)) (hD 10 (by omega))
    clear hD
    dsimp only [List.drop]
    have HI := hid hI
    have hk : w1.heap[b]? = some (LBlk (some m) tk) := (hI.mod.block _ HA.out.lt.1 HA.out.ne).trans HA.out.1
    obtain ⟨c0, c1, cf, cl⟩ := lfacts hk
    have HK := hid hk
    clear hI hk
    go_wp2_with fail
    go_ret
    exact ⟨rfl, ⟨HK.out, HI.out.map⟩, ((Mod.refl (Own b m) w).alloc _).trans HI.out.mod (fun _ _ h => .inr h)⟩
end
end Go.Proofs.Ytofkodfdgbjboaa
