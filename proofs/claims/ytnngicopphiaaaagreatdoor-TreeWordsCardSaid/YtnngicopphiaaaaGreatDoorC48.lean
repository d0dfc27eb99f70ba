/- Part 48 of 51 of a proof: lemmas on the functions that it reaches. -/
import Derived.Test.YtnngicopphiaaaaGreatDoorC46
import Derived.Test.YtnngicopphiaaaaGreatDoorC47
namespace Go.Proofs.YtnngicopphiaaaaGreatDoor.T
set_option maxRecDepth 8000
open Go.ChangeShapes Go.WideShapes Go.ChangeAt Go.RowKit Go.Burg
open Go.Burg.Lk
section
variable {t sb sg kb km : Nat} {l : List (Cel Nd)} {L : List (RefK × Wd)} {tk : Int} {w : World}
theorem tBegin_at (r : RefK) (w : World) (h : TreeAt w t sb sg kb km l L tk) : Calls Tryz.prog 7 #[.pointer (some ⟨t, 0, none⟩), .agg #[.int .i64 r.1.1, .int .u32 r.1.2]] w fun e w' => e = .returned (.tuple #[.int .u64 (K.beg L r).1, .int .i64 (K.beg L r).2]) ∧ Below w.heap.size w w' := by
  have hN := heap_new w (.cells #[.int .i64 r.1.1, .int .u32 r.1.2] 30 (0, 0))
  have hA := h.alloc (.cells #[.int .i64 r.1.1, .int .u32 r.1.2] 30 (0, 0))
  have hB : Below w.heap.size w (w.alloc (.cells #[.int .i64 r.1.1, .int .u32 r.1.2] 30 (0, 0))) := (Below.refl _ _).alloc (Nat.le_refl _) _
  have HM := hid (tmade_at _ hA.ht)
  generalize hW : w.alloc (.cells #[.int .i64 r.1.1, .int .u32 r.1.2] 30 (0, 0)) = W at *
  generalize hu : w.heap.size = u at *
  have HA := hid hA
  have HN := hid hN
  have HB := hid hB
  have HW := hid hW
  have HU := hid hu
  clear h hN hA hB hW hu
  have HK := hid (fun w1 (hb : Below W.heap.size W w1) => K.begin_at (HA.out.keep hb).hk r)
  go_enter Tryz.func7, Tryz.ntmps7
  go_wp2_with fail
  rw [HW.out, HU.out]
  go_wp2_with (go_at_call 23; refine HM.out.mono ?_; rintro e w' ⟨rfl, rfl⟩)
  refine wp_region_seq 12 (fun w1 => Below (W).heap.size (W) w1) (by kernel_rfl) (by kernel_rfl) (by kernel_rfl) ⟨rfl, rfl, rfl, Nat.le_refl _, fun _ _ => rfl⟩ ?_
  dsimp only [List.take]
  iterate 12
    refine Seq.cons (a' := ?_) ?_ ?_ ?_
    rotate_left
    ·
      intro w1 hw1
      have t1 := cell_of (HA.out.keep hw1).ht 1; have hn := (hw1.block _ (lt_of_block HN.out)).trans HN.out; have n0 := cell_of hn 0; have n1 := cell_of hn 1; clear hn
      go_wp2_with (go_at_call 25; refine (HK.out _ hw1).mono ?_; rintro e w' ⟨rfl, hb⟩)
      refine ⟨?_, by first | assumption | (simpa using below_chain hw1 hb hw1.size)⟩
      exact rfl
    · kernel_rfl
  refine SeqI.nil ?_
  intro _ w1 _ hw1
  dsimp only [List.drop]
  go_wp2_with fail
  go_ret2
  exact ⟨rfl, HB.out.trans (hw1.mono (by have := HB.out.size; have := HU.out; omega))⟩
theorem tCheck_at (r : RefK) (x : Wd) (w : World) (h : TreeAt w t sb sg kb km l L tk) : Calls Tryz.prog 15 #[.pointer (some ⟨t, 0, none⟩), .agg #[.int .i64 r.1.1, .int .u32 r.1.2], .int .u64 x.1] w fun e w' => e = .returned (.bool (decide (K.lkp L r = some x))) ∧ Below w.heap.size w w' := by
  have hN := heap_new w (.cells #[.int .i64 r.1.1, .int .u32 r.1.2] 30 (0, 0))
  have hA := h.alloc (.cells #[.int .i64 r.1.1, .int .u32 r.1.2] 30 (0, 0))
  have hB : Below w.heap.size w (w.alloc (.cells #[.int .i64 r.1.1, .int .u32 r.1.2] 30 (0, 0))) := (Below.refl _ _).alloc (Nat.le_refl _) _
  have HM := hid (tmade_at _ hA.ht)
  generalize hW : w.alloc (.cells #[.int .i64 r.1.1, .int .u32 r.1.2] 30 (0, 0)) = W at *
  generalize hu : w.heap.size = u at *
  have HA := hid hA
  have HN := hid hN
  have HB := hid hB
  have HW := hid hW
  have HU := hid hu
  clear h hN hA hB hW hu
  have HK := hid (fun w1 (hb : Below W.heap.size W w1) => K.check_at (HA.out.keep hb).hk r x)
  have HMM := hid (fun w1 (hb : Below W.heap.size W w1) => tmade_at w1 (HA.out.keep hb).ht)
  generalize decide (K.lkp L r = some x) = bb at *
  go_enter Tryz.func15, Tryz.ntmps15
  go_wp2_with fail
  rw [HW.out, HU.out]
  refine wp_region_seq 13 (fun w1 => Below (W).heap.size (W) w1) (by kernel_rfl) (by kernel_rfl) (by kernel_rfl) ⟨rfl, rfl, rfl, Nat.le_refl _, fun _ _ => rfl⟩ ?_
  dsimp only [List.take]
  iterate 13
    refine Seq.cons (a' := ?_) ?_ ?_ ?_
    rotate_left
    ·
      intro w1 hw1
      have t1 := cell_of (HA.out.keep hw1).ht 1; have hn := (hw1.block _ (lt_of_block HN.out)).trans HN.out; have n0 := cell_of hn 0; have n1 := cell_of hn 1; clear hn
      go_wp2_with ((first | (go_at_call 23; refine (HMM.out _ hw1).mono ?_; rintro e w' ⟨rfl, rfl⟩) | (go_at_call 34; refine (HK.out _ hw1).mono ?_; rintro e w' ⟨rfl, hb⟩)))
      refine ⟨?_, by first | assumption | (simpa using below_chain hw1 hb hw1.size)⟩
      exact rfl
    · kernel_rfl
  refine SeqI.nil ?_
  intro _ w1 _ hw1
  dsimp only [List.drop]
  go_wp2_with fail
  go_ret
  exact ⟨rfl, HB.out.trans (hw1.mono (by have := HB.out.size; have := HU.out; omega))⟩
theorem tHeld_at (w : World) (h : TreeAt w t sb sg kb km l L tk) (hn : L.length ≤ 100000) : Calls Tryz.prog 13 #[.pointer (some ⟨t, 0, none⟩)] w fun e w' => e = .returned (.int .i64 (K.heldL L)) ∧ Below w.heap.size w w' := by
  have HM := hid (tmade_at _ h.ht)
  have HK := hid (K.held_at h.hk hn)
  have t1 := cell_of h.ht 1
  have hk := h.hk
  clear h
  have HKK := hid hk
  clear hk
  go_enter Tryz.func13, Tryz.ntmps13
  go_wp2_with (first | (go_at_call 23; refine HM.out.mono ?_; rintro e w' ⟨rfl, rfl⟩) | (go_at_call 32; refine HK.out.mono ?_; rintro e w2 ⟨rfl, hb⟩))
  go_ret
  exact ⟨rfl, by first | exact hb | (subst hb; exact Below.refl _ _)⟩
theorem tTaken_at (w : World) (h : TreeAt w t sb sg kb km l L tk) (_hn : True) : Calls Tryz.prog 14 #[.pointer (some ⟨t, 0, none⟩)] w fun e w' => e = .returned (.int .i64 tk) ∧ Below w.heap.size w w' := by
  have HM := hid (tmade_at _ h.ht)
  have HK := hid (K.taken_at h.hk)
  have t1 := cell_of h.ht 1
  have hk := h.hk
  clear h
  have HKK := hid hk
  clear hk
  go_enter Tryz.func14, Tryz.ntmps14
  go_wp2_with (first | (go_at_call 23; refine HM.out.mono ?_; rintro e w' ⟨rfl, rfl⟩) | (go_at_call 33; refine HK.out.mono ?_; rintro e w2 ⟨rfl, hb⟩))
  go_ret
  exact ⟨rfl, by first | exact hb | (subst hb; exact Below.refl _ _)⟩
theorem TreeAt.ne2 (h : TreeAt w t sb sg kb km l L tk) : t ≠ kb ∧ sb ≠ kb := ⟨ne_of h.ht h.hk.1 (by simp [K.LBlk]), ne_of h.hs.hb h.hk.1 (by simp [K.LBlk])⟩
theorem TreeAt.own {w' : World} {L' : List (RefK × Wd)} {tk' : Int} (h : TreeAt w t sb sg kb km l L tk) (hM : Mod (K.Own kb km) w w') (hk : K.LocksAt w' kb km L' tk') : TreeAt w' t sb sg kb km l L' tk' := by
  have h1 := h.ne
  have h2 := h.ne2
  exact ⟨(hM.block t (lt_of_block h.ht) (by rintro (e | e); exact h2.1 e; exact h1.2.1 e)).trans h.ht, h.hs.mod hM (by rintro (e | e); exact h2.2 e; exact h1.2.2.1 e) (by rintro (e | e); exact h1.2.2.2.2.1 e.symm; exact h1.2.2.2.2.2.2 e), hk⟩
theorem tLock_at (r : RefK) (x : Wd) (w : World) (h : TreeAt w t sb sg kb km l L tk) (hq : tk < 4000000000) (hq0 : 0 ≤ tk) : Calls Tryz.prog 9 #[.pointer (some ⟨t, 0, none⟩), .agg #[.int .i64 r.1.1, .int .u32 r.1.2], .int .u64 x.1] w fun e w' => e = .returned (.bool (K.lockL L r x).1) ∧ TreeAt w' t sb sg kb km l (K.lockL L r x).2 (if (K.lockL L r x).1 then tk + 1 else tk) ∧ Mod (K.Own kb km) w w' := by
  have HUL := hid h.hk.lt
  have hN := heap_new w (.cells #[.int .i64 r.1.1, .int .u32 r.1.2] 30 (0, 0))
  have hA := h.alloc (.cells #[.int .i64 r.1.1, .int .u32 r.1.2] 30 (0, 0))
  have hB : Below w.heap.size w (w.alloc (.cells #[.int .i64 r.1.1, .int .u32 r.1.2] 30 (0, 0))) := (Below.refl _ _).alloc (Nat.le_refl _) _
  have HM := hid (tmade_at _ hA.ht)
  generalize hW : w.alloc (.cells #[.int .i64 r.1.1, .int .u32 r.1.2] 30 (0, 0)) = W at *
  generalize hu : w.heap.size = u at *
  have HA := hid hA
  have HN := hid hN
  have HB := hid hB
  have HW := hid hW
  have HU := hid hu
  clear h hN hA hB hW hu
  have HK := hid (fun w1 (hb : Below W.heap.size W w1) => K.lock_at0 (HA.out.keep hb).hk r x hq hq0)
  generalize hbb : (K.lockL L r x).1 = bb at *
  generalize hll : (K.lockL L r x).2 = LL at *
  generalize htt : (if bb = true then tk + 1 else tk) = tt at *
  clear hbb hll htt hq hq0
  have hlt := HA.out.hk.lt
  have hux : kb < u ∧ km < u := HUL.out
  have h1 := HA.out.ne
  have h2 := HA.out.ne2
  have HNE : Hid (¬ K.Own kb km t ∧ ¬ K.Own kb km u) := hid ⟨(by rintro (e | e) <;> omega), (by rintro (e | e) <;> omega)⟩
  clear h1 h2
  clear hlt hux
  go_enter Tryz.func9, Tryz.ntmps9
  go_wp2_with fail
  rw [HW.out, HU.out]
  refine wp_region_seqI 13 (Turn 10 (fun w1 => Below W.heap.size W w1) (fun w1 => TreeAt w1 t sb sg kb km l LL tt ∧ Mod (K.Own kb km) W w1)) (by kernel_rfl) (by kernel_rfl) (by kernel_rfl) (Turn.start (Below.refl _ _).drew) ?_
  dsimp only [List.take]
  iterate 10
    refine Seq.calm (a' := ?_) (by decide) ?_ ?_ ?_
    rotate_left
    ·
      intro w1 hw1
      have hM : Mod (K.Own kb km) W w1 := hw1.elim mod_below (·.2); have t1 := cell_of ((hM.block t (lt_of_block HA.out.ht) HNE.out.1).trans HA.out.ht) 1; have ht1 := (hM.block t (lt_of_block HA.out.ht) HNE.out.1).trans HA.out.ht; have HMX := hid (tmade_at w1 ht1); have hn := (hM.block u (lt_of_block HN.out) HNE.out.2).trans HN.out; have n0 := cell_of hn 0; have n1 := cell_of hn 1; clear hn hM ht1
      go_wp2_with (go_at_call 23; refine HMX.out.mono ?_; rintro e w' ⟨rfl, rfl⟩)
      first | (refine ⟨?_, id, id⟩; exact rfl) | (refine ⟨?_, id, id⟩; exact rfl)
    · kernel_rfl
  refine Seq.turn (a' := ?_) ?_ ?_ ?_
  rotate_left
  ·
    intro w1 hw1
    have HX := hid hw1; clear hw1; go_wp2_with (go_at_call 26; refine (HK.out _ HX.out).mono ?_; rintro e w2 ⟨rfl, hk2, hM2⟩); refine ⟨?_, (HA.out.keep HX.out).own hM2 hk2, (Mod.ofBelow (S := K.Own kb km) HX.out).trans hM2 (fun _ _ e => e)⟩; exact rfl
  · kernel_rfl
  iterate 2
    refine Seq.calm (a' := ?_) (by decide) ?_ ?_ ?_
    rotate_left
    ·
      intro w1 hw1
      have hM : Mod (K.Own kb km) W w1 := hw1.elim mod_below (·.2); have t1 := cell_of ((hM.block t (lt_of_block HA.out.ht) HNE.out.1).trans HA.out.ht) 1; have ht1 := (hM.block t (lt_of_block HA.out.ht) HNE.out.1).trans HA.out.ht; have HMX := hid (tmade_at w1 ht1); have hn := (hM.block u (lt_of_block HN.out) HNE.out.2).trans HN.out; have n0 := cell_of hn 0; have n1 := cell_of hn 1; clear hn hM ht1
      go_wp2_with (go_at_call 23; refine HMX.out.mono ?_; rintro e w' ⟨rfl, rfl⟩)
      first | (refine ⟨?_, id, id⟩; exact rfl) | (refine ⟨?_, id, id⟩; exact rfl)
    · kernel_rfl
  refine SeqI.nil ?_
  intro D w1 hD hI
  replace hI := hI.done (hD 10 (by omega))
  clear hD
  dsimp only [List.drop]
  obtain ⟨hT, hM⟩ := hI
  have HE := hid (And.intro hT hM)
  clear hT hM
  go_wp2_with fail
  go_ret
  exact ⟨rfl, HE.out.1, (Mod.ofBelow (S := K.Own kb km) (HU.out ▸ HB.out)).trans HE.out.2 (fun _ _ e => e)⟩
theorem open_drop (r : RefK) (w : World) (h : TreeAt w t sb sg kb km l L tk) : Calls Tryz.prog 27 #[.pointer (some ⟨t, 0, none⟩), .agg #[.int .i64 r.1.1, .int .u32 r.1.2], .func (.func 28) #[] #[]] w fun e w' => e = .returned (.int .i64 (K.turnL L r Wd.drop).1) ∧ TreeAt w' t sb sg kb km l (K.turnL L r Wd.drop).2 tk ∧ Mod (K.Own kb km) w w' := by
  have HUL := hid h.hk.lt
  have hN := heap_new w (.cells #[.int .i64 r.1.1, .int .u32 r.1.2] 30 (0, 0))
  have hA := h.alloc (.cells #[.int .i64 r.1.1, .int .u32 r.1.2] 30 (0, 0))
  have hB : Below w.heap.size w (w.alloc (.cells #[.int .i64 r.1.1, .int .u32 r.1.2] 30 (0, 0))) := (Below.refl _ _).alloc (Nat.le_refl _) _
  have HM := hid (tmade_at _ hA.ht)
  generalize hW : w.alloc (.cells #[.int .i64 r.1.1, .int .u32 r.1.2] 30 (0, 0)) = W at *
  generalize hu : w.heap.size = u at *
  have HA := hid hA
  have HN := hid hN
  have HB := hid hB
  have HW := hid hW
  have HU := hid hu
  clear h hN hA hB hW hu
  have HK := hid (fun w1 (hb : Below W.heap.size W w1) => K.drop_at (HA.out.keep hb).hk r)
  generalize hbb : (K.turnL L r Wd.drop).1 = bb at *
  generalize hll : (K.turnL L r Wd.drop).2 = LL at *
  clear hbb hll
  have hlt := HA.out.hk.lt
  have hux : kb < u ∧ km < u := HUL.out
  have h1 := HA.out.ne
  have h2 := HA.out.ne2
  have HNE : Hid (¬ K.Own kb km t ∧ ¬ K.Own kb km u) := hid ⟨(by rintro (e | e) <;> omega), (by rintro (e | e) <;> omega)⟩
  clear h1 h2
  clear hlt hux
  go_enter Tryz.func27, Tryz.ntmps27
  go_wp2_with fail
  rw [HW.out, HU.out]
  go_wp2_with (go_at_call 23; refine HM.out.mono ?_; rintro e w' ⟨rfl, rfl⟩)
  refine wp_region_seqI 9 (Turn 7 (fun w1 => Below W.heap.size W w1) (fun w1 => TreeAt w1 t sb sg kb km l LL tk ∧ Mod (K.Own kb km) W w1)) (by kernel_rfl) (by kernel_rfl) (by kernel_rfl) (Turn.start (Below.refl _ _).drew) ?_
  dsimp only [List.take]
  iterate 7
    refine Seq.calm (a' := ?_) (by decide) ?_ ?_ ?_
    rotate_left
    ·
      intro w1 hw1
      have hM : Mod (K.Own kb km) W w1 := hw1.elim mod_below (·.2); have t1 := cell_of ((hM.block t (lt_of_block HA.out.ht) HNE.out.1).trans HA.out.ht) 1; have ht1 := (hM.block t (lt_of_block HA.out.ht) HNE.out.1).trans HA.out.ht; have HMX := hid (tmade_at w1 ht1); have hn := (hM.block u (lt_of_block HN.out) HNE.out.2).trans HN.out; have n0 := cell_of hn 0; have n1 := cell_of hn 1; clear hn hM ht1
      go_wp2_with (fail)
      first | (refine ⟨?_, id, id⟩; exact rfl) | (refine ⟨?_, id, id⟩; exact rfl)
    · kernel_rfl
  refine Seq.turn (a' := ?_) ?_ ?_ ?_
  rotate_left
  ·
    intro w1 hw1
    have HX := hid hw1; clear hw1; go_wp2_with (go_at_call 28; refine (HK.out _ HX.out).mono ?_; rintro e w2 ⟨rfl, hk2, hM2⟩); refine ⟨?_, (HA.out.keep HX.out).own hM2 hk2, (Mod.ofBelow (S := K.Own kb km) HX.out).trans hM2 (fun _ _ e => e)⟩; exact rfl
  · kernel_rfl
  iterate 1
    refine Seq.calm (a' := ?_) (by decide) ?_ ?_ ?_
    rotate_left
    ·
      intro w1 hw1
      have hM : Mod (K.Own kb km) W w1 := hw1.elim mod_below (·.2); have t1 := cell_of ((hM.block t (lt_of_block HA.out.ht) HNE.out.1).trans HA.out.ht) 1; have ht1 := (hM.block t (lt_of_block HA.out.ht) HNE.out.1).trans HA.out.ht; have HMX := hid (tmade_at w1 ht1); have hn := (hM.block u (lt_of_block HN.out) HNE.out.2).trans HN.out; have n0 := cell_of hn 0; have n1 := cell_of hn 1; clear hn hM ht1
      go_wp2_with (fail)
      first | (refine ⟨?_, id, id⟩; exact rfl) | (refine ⟨?_, id, id⟩; exact rfl)
    · kernel_rfl
  refine SeqI.nil ?_
  intro D w1 hD hI
  replace hI := hI.done (hD 7 (by omega))
  clear hD
  dsimp only [List.drop]
  obtain ⟨hT, hM⟩ := hI
  have HE := hid (And.intro hT hM)
  clear hT hM
  go_wp2_with fail
  go_ret
  exact ⟨rfl, HE.out.1, (Mod.ofBelow (S := K.Own kb km) (HU.out ▸ HB.out)).trans HE.out.2 (fun _ _ e => e)⟩
theorem open_done (r : RefK) (w : World) (h : TreeAt w t sb sg kb km l L tk) : Calls Tryz.prog 27 #[.pointer (some ⟨t, 0, none⟩), .agg #[.int .i64 r.1.1, .int .u32 r.1.2], .func (.func 29) #[] #[]] w fun e w' => e = .returned (.int .i64 (K.turnL L r Wd.done).1) ∧ TreeAt w' t sb sg kb km l (K.turnL L r Wd.done).2 tk ∧ Mod (K.Own kb km) w w' := by
  have HUL := hid h.hk.lt
  have hN := heap_new w (.cells #[.int .i64 r.1.1, .int .u32 r.1.2] 30 (0, 0))
  have hA := h.alloc (.cells #[.int .i64 r.1.1, .int .u32 r.1.2] 30 (0, 0))
  have hB : Below w.heap.size w (w.alloc (.cells #[.int .i64 r.1.1, .int .u32 r.1.2] 30 (0, 0))) := (Below.refl _ _).alloc (Nat.le_refl _) _
  have HM := hid (tmade_at _ hA.ht)
  generalize hW : w.alloc (.cells #[.int .i64 r.1.1, .int .u32 r.1.2] 30 (0, 0)) = W at *
  generalize hu : w.heap.size = u at *
  have HA := hid hA
  have HN := hid hN
  have HB := hid hB
  have HW := hid hW
  have HU := hid hu
  clear h hN hA hB hW hu
  have HK := hid (fun w1 (hb : Below W.heap.size W w1) => K.done_at (HA.out.keep hb).hk r)
  generalize hbb : (K.turnL L r Wd.done).1 = bb at *
  generalize hll : (K.turnL L r Wd.done).2 = LL at *
  clear hbb hll
  have hlt := HA.out.hk.lt
  have hux : kb < u ∧ km < u := HUL.out
  have h1 := HA.out.ne
  have h2 := HA.out.ne2
  have HNE : Hid (¬ K.Own kb km t ∧ ¬ K.Own kb km u) := hid ⟨(by rintro (e | e) <;> omega), (by rintro (e | e) <;> omega)⟩
  clear h1 h2
  clear hlt hux
  go_enter Tryz.func27, Tryz.ntmps27
  go_wp2_with fail
  rw [HW.out, HU.out]
  go_wp2_with (go_at_call 23; refine HM.out.mono ?_; rintro e w' ⟨rfl, rfl⟩)
  refine wp_region_seqI 9 (Turn 7 (fun w1 => Below W.heap.size W w1) (fun w1 => TreeAt w1 t sb sg kb km l LL tk ∧ Mod (K.Own kb km) W w1)) (by kernel_rfl) (by kernel_rfl) (by kernel_rfl) (Turn.start (Below.refl _ _).drew) ?_
  dsimp only [List.take]
  iterate 7
    refine Seq.calm (a' := ?_) (by decide) ?_ ?_ ?_
    rotate_left
    ·
      intro w1 hw1
      have hM : Mod (K.Own kb km) W w1 := hw1.elim mod_below (·.2); have t1 := cell_of ((hM.block t (lt_of_block HA.out.ht) HNE.out.1).trans HA.out.ht) 1; have ht1 := (hM.block t (lt_of_block HA.out.ht) HNE.out.1).trans HA.out.ht; have HMX := hid (tmade_at w1 ht1); have hn := (hM.block u (lt_of_block HN.out) HNE.out.2).trans HN.out; have n0 := cell_of hn 0; have n1 := cell_of hn 1; clear hn hM ht1
      go_wp2_with (fail)
      first | (refine ⟨?_, id, id⟩; exact rfl) | (refine ⟨?_, id, id⟩; exact rfl)
    · kernel_rfl
  refine Seq.turn (a' := ?_) ?_ ?_ ?_
  rotate_left
  ·
    intro w1 hw1
    have HX := hid hw1; clear hw1; go_wp2_with (go_at_call 29; refine (HK.out _ HX.out).mono ?_; rintro e w2 ⟨rfl, hk2, hM2⟩); refine ⟨?_, (HA.out.keep HX.out).own hM2 hk2, (Mod.ofBelow (S := K.Own kb km) HX.out).trans hM2 (fun _ _ e => e)⟩; exact rfl
  · kernel_rfl
  iterate 1
    refine Seq.calm (a' := ?_) (by decide) ?_ ?_ ?_
    rotate_left
    ·
      intro w1 hw1
      have hM : Mod (K.Own kb km) W w1 := hw1.elim mod_below (·.2); have t1 := cell_of ((hM.block t (lt_of_block HA.out.ht) HNE.out.1).trans HA.out.ht) 1; have ht1 := (hM.block t (lt_of_block HA.out.ht) HNE.out.1).trans HA.out.ht; have HMX := hid (tmade_at w1 ht1); have hn := (hM.block u (lt_of_block HN.out) HNE.out.2).trans HN.out; have n0 := cell_of hn 0; have n1 := cell_of hn 1; clear hn hM ht1
      go_wp2_with (fail)
      first | (refine ⟨?_, id, id⟩; exact rfl) | (refine ⟨?_, id, id⟩; exact rfl)
    · kernel_rfl
  refine SeqI.nil ?_
  intro D w1 hD hI
  replace hI := hI.done (hD 7 (by omega))
  clear hD
  dsimp only [List.drop]
  obtain ⟨hT, hM⟩ := hI
  have HE := hid (And.intro hT hM)
  clear hT hM
  go_wp2_with fail
  go_ret
  exact ⟨rfl, HE.out.1, (Mod.ofBelow (S := K.Own kb km) (HU.out ▸ HB.out)).trans HE.out.2 (fun _ _ e => e)⟩
theorem tBack_at (r : RefK) (w : World) (h : TreeAt w t sb sg kb km l L tk) : Calls Tryz.prog 10 #[.pointer (some ⟨t, 0, none⟩), .agg #[.int .i64 r.1.1, .int .u32 r.1.2]] w fun e w' => e = .returned (.int .i64 (K.turnL L r Wd.drop).1) ∧ TreeAt w' t sb sg kb km l (K.turnL L r Wd.drop).2 tk ∧ Mod (K.Own kb km) w w' := by
  have hB : Below w.heap.size w (w.alloc (.cells #[.int .i64 r.1.1, .int .u32 r.1.2] 30 (0, 0))) := (Below.refl _ _).alloc (Nat.le_refl _) _
  have HO := hid (open_drop r _ (h.alloc (.cells #[.int .i64 r.1.1, .int .u32 r.1.2] 30 (0, 0))))
  have hN := heap_new w (.cells #[.int .i64 r.1.1, .int .u32 r.1.2] 30 (0, 0))
  have n0 := cell_of hN 0
  have n1 := cell_of hN 1
  have HB := hid hB
  clear h hN hB
  go_enter Tryz.func10, Tryz.ntmps10
  go_wp2_with (go_at_call 27; refine HO.out.mono ?_; rintro e w2 ⟨rfl, hT, hM⟩)
  go_ret
  exact ⟨rfl, hT, (Mod.ofBelow (S := K.Own kb km) HB.out).trans hM (fun _ _ e => e)⟩
theorem tDone_at (r : RefK) (w : World) (h : TreeAt w t sb sg kb km l L tk) : Calls Tryz.prog 11 #[.pointer (some ⟨t, 0, none⟩), .agg #[.int .i64 r.1.1, .int .u32 r.1.2]] w fun e w' => e = .returned (.int .i64 (K.turnL L r Wd.done).1) ∧ TreeAt w' t sb sg kb km l (K.turnL L r Wd.done).2 tk ∧ Mod (K.Own kb km) w w' := by
  have hB : Below w.heap.size w (w.alloc (.cells #[.int .i64 r.1.1, .int .u32 r.1.2] 30 (0, 0))) := (Below.refl _ _).alloc (Nat.le_refl _) _
  have HO := hid (open_done r _ (h.alloc (.cells #[.int .i64 r.1.1, .int .u32 r.1.2] 30 (0, 0))))
  have hN := heap_new w (.cells #[.int .i64 r.1.1, .int .u32 r.1.2] 30 (0, 0))
  have n0 := cell_of hN 0
  have n1 := cell_of hN 1
  have HB := hid hB
  clear h hN hB
  go_enter Tryz.func11, Tryz.ntmps11
  go_wp2_with (go_at_call 27; refine HO.out.mono ?_; rintro e w2 ⟨rfl, hT, hM⟩)
  go_ret
  exact ⟨rfl, hT, (Mod.ofBelow (S := K.Own kb km) HB.out).trans hM (fun _ _ e => e)⟩
end
end Go.Proofs.YtnngicopphiaaaaGreatDoor.T
