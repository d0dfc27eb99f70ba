/- The reference slab: Lives, Get, Free, Set. -/
import Derived.Test.YtmgiaedfonaefaaSlabI2
namespace Go.Proofs.Ytmgiaedfonaefaa.R
open Go.ChangeShapes Go.WideShapes Go.ChangeAt Go.RowKit Go.Burg

theorem lives_in {b g i : Nat} {l : List (Cel Int)} {c : Cel Int} (gen : Int) (w : World) (h : SlabAt (fun x : Int => .int .i64 x) 82 79 w b g l) (hi : l[i]? = some c) (r : Bool) (hr : (c.is && decide (c.gen = gen)) = r) :
    Calls Try.prog 50 #[.pointer (some ⟨b, 0, none⟩), .agg #[.int .i64 i, .int .u32 gen]] w fun e w' => e = .returned (.bool r) ∧ Below w.heap.size w w' := by
  have hil : i < l.length := (List.getElem?_eq_some_iff.1 hi).1
  have hN := heap_new w (.cells #[.int .i64 i, .int .u32 gen] 31)
  have hA := h.alloc (.cells #[.int .i64 i, .int .u32 gen] 31)
  have hp := h.pos
  have ht := h.top
  have hd1 : decide ((i : Int) < (l.length : Int)) = true := by simp; exact hil
  have hd2 : decide (0 ≤ (i : Int)) = true := by simp
  obtain ⟨is, x, gn⟩ := c
  obtain ⟨s0, sf⟩ := hA.head
  have n0 := cell_of hN 0
  have n1 := cell_of hN 1
  obtain ⟨c0, c1, c2, cf, _, _⟩ := hA.hc.cell hi
  have HR := hid hr
  have HB : Hid (Below w.heap.size w (w.alloc (.cells #[.int .i64 i, .int .u32 gen] 31))) := hid ((Below.refl _ _).alloc (Nat.le_refl _) _)
  generalize hW : w.alloc (.cells #[.int .i64 i, .int .u32 gen] 31) = W at *
  have HW := hid hW
  have hne : w.heap.size ≠ b := by have := h.blt; omega
  clear hr hW
  go_enter Try.func50, Try.ntmps50
  go_wp2_with fail
  rw [HW.out]
  cases is
  all_goals
    go_quiet (fail)
    go_wp2
    go_ret
    refine ⟨?_, below_drewN HB.out⟩
    have := HR.out
    subst this
    simp
    try rfl

theorem lives_out {b g : Nat} {l : List (Cel Int)} (slot gen : Int) (w : World) (h : SlabAt (fun x : Int => .int .i64 x) 82 79 w b g l) (ho : slot < 0 ∨ (l.length : Int) ≤ slot) :
    Calls Try.prog 50 #[.pointer (some ⟨b, 0, none⟩), .agg #[.int .i64 slot, .int .u32 gen]] w fun e w' => e = .returned (.bool false) ∧ Below w.heap.size w w' := by
  have hN := heap_new w (.cells #[.int .i64 slot, .int .u32 gen] 31)
  have hA := h.alloc (.cells #[.int .i64 slot, .int .u32 gen] 31)
  have hp := h.pos
  have ht := h.top
  obtain ⟨s0, sf⟩ := hA.head
  have n0 := cell_of hN 0
  have n1 := cell_of hN 1
  have HB : Hid (Below w.heap.size w (w.alloc (.cells #[.int .i64 slot, .int .u32 gen] 31))) := hid ((Below.refl _ _).alloc (Nat.le_refl _) _)
  generalize hW : w.alloc (.cells #[.int .i64 slot, .int .u32 gen] 31) = W at *
  have HW := hid hW
  have hne : w.heap.size ≠ b := by have := h.blt; omega
  clear hW
  by_cases h0 : slot < 0
  · have hd2 : decide (0 ≤ slot) = false := by simp; exact h0
    clear ho
    go_enter Try.func50, Try.ntmps50
    go_wp2_with fail
    rw [HW.out]
    go_quiet (fail)
    go_wp2
    go_ret
    exact ⟨by first | rfl | simp, below_drewN HB.out⟩
  · have hd2 : decide (0 ≤ slot) = true := by simp; omega
    have hle : (l.length : Int) ≤ slot := by omega
    have hd3 : decide (slot < (l.length : Int)) = false := by simp; omega
    clear ho
    go_enter Try.func50, Try.ntmps50
    go_wp2_with fail
    rw [HW.out]
    go_quiet (fail)
    go_wp2
    go_ret
    exact ⟨by first | rfl | simp, below_drewN HB.out⟩

theorem lives_live {b g i : Nat} {l : List (Cel Int)} {c : Cel Int} (slot gen : Int) (w : World) (h : SlabAt (fun x : Int => .int .i64 x) 82 79 w b g l) (hL : I.Live l slot gen i c) :
    Calls Try.prog 50 #[.pointer (some ⟨b, 0, none⟩), .agg #[.int .i64 slot, .int .u32 gen]] w fun e w' => e = .returned (.bool true) ∧ Below w.heap.size w w' := by
  obtain ⟨rfl, h2, h3, h4⟩ := hL
  exact lives_in gen w h h2 true (by simp [h3, h4])

theorem lives_dead {b g : Nat} {l : List (Cel Int)} (slot gen : Int) (w : World) (h : SlabAt (fun x : Int => .int .i64 x) 82 79 w b g l) (hd : ∀ i c, ¬ I.Live l slot gen i c) :
    Calls Try.prog 50 #[.pointer (some ⟨b, 0, none⟩), .agg #[.int .i64 slot, .int .u32 gen]] w fun e w' => e = .returned (.bool false) ∧ Below w.heap.size w w' := by
  by_cases ho : slot < 0 ∨ (l.length : Int) ≤ slot
  · exact lives_out slot gen w h ho
  · obtain ⟨i, rfl⟩ : ∃ i : Nat, slot = i := ⟨slot.toNat, by omega⟩
    have hil : i < l.length := by omega
    refine lives_in gen w h (List.getElem?_eq_getElem hil) false ?_
    have := hd i l[i]
    simp only [I.Live, true_and, List.getElem?_eq_getElem hil, not_and] at this
    cases hx : l[i].is
    · simp
    · simpa [hx] using this hx


theorem get_dead {b g : Nat} {l : List (Cel Int)} (slot gen : Int) (w : World) (h : SlabAt (fun x : Int => .int .i64 x) 82 79 w b g l) (hd : ∀ i c, ¬ I.Live l slot gen i c) :
    Calls Try.prog 35 #[.pointer (some ⟨b, 0, none⟩), .agg #[.int .i64 slot, .int .u32 gen]] w fun e w' => e = .returned (.tuple #[.int .i64 0, .bool false]) ∧ Below w.heap.size w w' := by
  have hA := h.alloc (.cells #[.int .i64 slot, .int .u32 gen] 31)
  have n0 := cell_of (heap_new w (.cells #[.int .i64 slot, .int .u32 gen] 31)) 0
  have n1 := cell_of (heap_new w (.cells #[.int .i64 slot, .int .u32 gen] 31)) 1
  have HN := hid (heap_new w (.cells #[.int .i64 slot, .int .u32 gen] 31))
  go_enter Try.func35, Try.ntmps35
  go_wp2_with fail
  refine (lives_dead slot gen _ hA hd).mono ?_
  rintro e w1 ⟨rfl, hw1⟩
  go_wp2
  go_ret2
  exact ⟨rfl, ((Below.refl _ _).alloc (Nat.le_refl _) _).trans (hw1.mono (by simp))⟩

theorem get_live {b g i : Nat} {l : List (Cel Int)} {c : Cel Int} (slot gen : Int) (w : World) (h : SlabAt (fun x : Int => .int .i64 x) 82 79 w b g l) (hL : I.Live l slot gen i c) :
    Calls Try.prog 35 #[.pointer (some ⟨b, 0, none⟩), .agg #[.int .i64 slot, .int .u32 gen]] w fun e w' => e = .returned (.tuple #[.int .i64 c.x, .bool true]) ∧ Below w.heap.size w w' := by
  have hA := h.alloc (.cells #[.int .i64 slot, .int .u32 gen] 31)
  have n0 := cell_of (heap_new w (.cells #[.int .i64 slot, .int .u32 gen] 31)) 0
  have n1 := cell_of (heap_new w (.cells #[.int .i64 slot, .int .u32 gen] 31)) 1
  have HN := hid (heap_new w (.cells #[.int .i64 slot, .int .u32 gen] 31))
  go_enter Try.func35, Try.ntmps35
  go_wp2_with fail
  refine (lives_live slot gen _ hA hL).mono ?_
  rintro e w1 ⟨rfl, hw1⟩
  have h1 := hA.keep hw1
  have hN := blk_below HN.out hw1 (by simp)
  have n0 := cell_of hN 0
  have n1 := cell_of hN 1
  have HB : Hid (Below w.heap.size w w1) := hid (((Below.refl _ _).alloc (Nat.le_refl _) _).trans (hw1.mono (by simp)))
  obtain ⟨rfl, hi, h3, h4⟩ := hL
  have hil : i < l.length := (List.getElem?_eq_some_iff.1 hi).1
  have ht := h.top
  obtain ⟨s0, sf⟩ := h1.head
  obtain ⟨c0, c1, c2, cf, _, _⟩ := h1.hc.cell hi
  clear hw1 hN hA h1 HN
  go_wp2_with fail
  go_quiet (fail)
  go_wp2
  go_ret2
  exact ⟨rfl, below_drewN HB.out⟩

theorem free_dead {b g : Nat} {l : List (Cel Int)} (slot gen : Int) (w : World) (h : SlabAt (fun x : Int => .int .i64 x) 82 79 w b g l) (hd : ∀ i c, ¬ I.Live l slot gen i c) :
    Calls Try.prog 36 #[.pointer (some ⟨b, 0, none⟩), .agg #[.int .i64 slot, .int .u32 gen]] w fun e w' => e = .returned (.int .i64 5) ∧ Below w.heap.size w w' := by
  have hA := h.alloc (.cells #[.int .i64 slot, .int .u32 gen] 31)
  have n0 := cell_of (heap_new w (.cells #[.int .i64 slot, .int .u32 gen] 31)) 0
  have n1 := cell_of (heap_new w (.cells #[.int .i64 slot, .int .u32 gen] 31)) 1
  have HN := hid (heap_new w (.cells #[.int .i64 slot, .int .u32 gen] 31))
  go_enter Try.func36, Try.ntmps36
  go_wp2_with fail
  refine (lives_dead slot gen _ hA hd).mono ?_
  rintro e w1 ⟨rfl, hw1⟩
  go_wp2
  go_ret
  exact ⟨rfl, ((Below.refl _ _).alloc (Nat.le_refl _) _).trans (hw1.mono (by simp))⟩

theorem set_dead {b g : Nat} {l : List (Cel Int)} (slot gen x : Int) (w : World) (h : SlabAt (fun x : Int => .int .i64 x) 82 79 w b g l) (hd : ∀ i c, ¬ I.Live l slot gen i c) :
    Calls Try.prog 37 #[.pointer (some ⟨b, 0, none⟩), .agg #[.int .i64 slot, .int .u32 gen], .int .i64 x] w fun e w' => e = .returned (.int .i64 5) ∧ Below w.heap.size w w' := by
  have hA := h.alloc (.cells #[.int .i64 slot, .int .u32 gen] 31)
  have n0 := cell_of (heap_new w (.cells #[.int .i64 slot, .int .u32 gen] 31)) 0
  have n1 := cell_of (heap_new w (.cells #[.int .i64 slot, .int .u32 gen] 31)) 1
  have HN := hid (heap_new w (.cells #[.int .i64 slot, .int .u32 gen] 31))
  go_enter Try.func37, Try.ntmps37
  go_wp2_with fail
  refine (lives_dead slot gen _ hA hd).mono ?_
  rintro e w1 ⟨rfl, hw1⟩
  go_wp2
  go_ret
  exact ⟨rfl, ((Below.refl _ _).alloc (Nat.le_refl _) _).trans (hw1.mono (by simp))⟩


set_option maxHeartbeats 1000000 in
theorem free_live {b g i : Nat} {l : List (Cel Int)} {c : Cel Int} (slot gen : Int) (w : World) (h : SlabAt (fun x : Int => .int .i64 x) 82 79 w b g l) (hL : I.Live l slot gen i c) :
    Calls Try.prog 36 #[.pointer (some ⟨b, 0, none⟩), .agg #[.int .i64 slot, .int .u32 gen]] w fun e w' => e = .returned (.int .i64 0) ∧ SlabAt (fun x : Int => .int .i64 x) 82 79 w' b g (l.set i ⟨false, 0, c.gen⟩) ∧ Mod (· = g) w w' := by
  have hA := h.alloc (.cells #[.int .i64 slot, .int .u32 gen] 31)
  have n0 := cell_of (heap_new w (.cells #[.int .i64 slot, .int .u32 gen] 31)) 0
  have n1 := cell_of (heap_new w (.cells #[.int .i64 slot, .int .u32 gen] 31)) 1
  have HN := hid (heap_new w (.cells #[.int .i64 slot, .int .u32 gen] 31))
  go_enter Try.func36, Try.ntmps36
  go_wp2_with fail
  refine (lives_live slot gen _ hA hL).mono ?_
  rintro e wa ⟨rfl, hwa⟩
  have H1 := hid (hA.keep hwa)
  have HN1 := hid (blk_below HN.out hwa (by simp))
  have HB : Hid (Below w.heap.size w wa) := hid (((Below.refl _ _).alloc (Nat.le_refl _) _).trans (hwa.mono (by simp)))
  obtain ⟨rfl, hi, h3, h4⟩ := hL
  have hil : i < l.length := (List.getElem?_eq_some_iff.1 hi).1
  have ht := h.top
  have HL0 := hid h
  have HNL : Hid (w.heap.size < wa.heap.size) := hid (lt_of_block HN1.out)
  clear hwa hA HN n0 n1 h
  go_wp2_with fail
  refine wp_region_seq 10 (fun w1 => Below (wa).heap.size (wa) w1) (by kernel_rfl) (by kernel_rfl) (by kernel_rfl) ⟨rfl, rfl, rfl, Nat.le_refl _, fun _ _ => rfl⟩ ?_
  dsimp only [List.take]
  iterate 10
    refine Seq.cons (a' := ?_) ?_ ?_ ?_
    rotate_left
    ·
      intro w1 hw1
      have h1 := H1.out.keep hw1
      have hN := blk_below HN1.out hw1 HNL.out
      have n0 := cell_of hN 0
      have n1 := cell_of hN 1
      obtain ⟨s0, sf⟩ := h1.head
      clear hN h1
      go_wp2_with (fail)
      refine ⟨?_, by first | assumption | (simpa using below_chain hw1 hb hw1.size)⟩
      exact rfl
    · kernel_rfl
  refine SeqI.nil ?_
  intro _ w1 _ hw1
  dsimp only [List.drop]
  have h2 := H1.out.keep hw1
  obtain ⟨c0, c1, c2, cf, g1, g2⟩ := h2.hc.cell hi
  have hP := HB.out.trans (hw1.mono HB.out.size)
  have HB2 := hid hP
  have HP := hid (h2.hc.put3 hi false 0 c.gen ⟨g1, g2⟩)
  clear hP hw1 h2
  go_wp2_with fail
  go_ret
  have hM : Mod (· = g) w _ := Mod.setCell (S := (· = g)) (p := ⟨g, i * 3 + 2, none⟩) (Mod.setCell (S := (· = g)) (p := ⟨g, i * 3 + 1, none⟩) (Mod.setCell (S := (· = g)) (p := ⟨g, i * 3, none⟩) (Mod.ofBelow HB2.out) (.inl rfl) (.bool false)) (.inl rfl) (.int .i64 0)) (.inl rfl) (.int .u32 c.gen)
  subst h4
  exact ⟨rfl, HL0.out.turn HP.out (by simp) hM, hM⟩

set_option maxHeartbeats 1000000 in
theorem set_live {b g i : Nat} {l : List (Cel Int)} {c : Cel Int} (slot gen x : Int) (w : World) (h : SlabAt (fun x : Int => .int .i64 x) 82 79 w b g l) (hL : I.Live l slot gen i c) :
    Calls Try.prog 37 #[.pointer (some ⟨b, 0, none⟩), .agg #[.int .i64 slot, .int .u32 gen], .int .i64 x] w fun e w' => e = .returned (.int .i64 0) ∧ SlabAt (fun x : Int => .int .i64 x) 82 79 w' b g (l.set i ⟨c.is, x, c.gen⟩) ∧ Mod (· = g) w w' := by
  have hA := h.alloc (.cells #[.int .i64 slot, .int .u32 gen] 31)
  have n0 := cell_of (heap_new w (.cells #[.int .i64 slot, .int .u32 gen] 31)) 0
  have n1 := cell_of (heap_new w (.cells #[.int .i64 slot, .int .u32 gen] 31)) 1
  have HN := hid (heap_new w (.cells #[.int .i64 slot, .int .u32 gen] 31))
  go_enter Try.func37, Try.ntmps37
  go_wp2_with fail
  refine (lives_live slot gen _ hA hL).mono ?_
  rintro e wa ⟨rfl, hwa⟩
  have H1 := hid (hA.keep hwa)
  have HN1 := hid (blk_below HN.out hwa (by simp))
  have HB : Hid (Below w.heap.size w wa) := hid (((Below.refl _ _).alloc (Nat.le_refl _) _).trans (hwa.mono (by simp)))
  obtain ⟨rfl, hi, h3, h4⟩ := hL
  have hil : i < l.length := (List.getElem?_eq_some_iff.1 hi).1
  have ht := h.top
  have HL0 := hid h
  have HNL : Hid (w.heap.size < wa.heap.size) := hid (lt_of_block HN1.out)
  clear hwa hA HN n0 n1 h
  go_wp2_with fail
  refine wp_region_seq 9 (fun w1 => Below (wa).heap.size (wa) w1) (by kernel_rfl) (by kernel_rfl) (by kernel_rfl) ⟨rfl, rfl, rfl, Nat.le_refl _, fun _ _ => rfl⟩ ?_
  dsimp only [List.take]
  iterate 9
    refine Seq.cons (a' := ?_) ?_ ?_ ?_
    rotate_left
    ·
      intro w1 hw1
      have h1 := H1.out.keep hw1
      have hN := blk_below HN1.out hw1 HNL.out
      have n0 := cell_of hN 0
      have n1 := cell_of hN 1
      obtain ⟨s0, sf⟩ := h1.head
      clear hN h1
      go_wp2_with (fail)
      refine ⟨?_, by first | assumption | (simpa using below_chain hw1 hb hw1.size)⟩
      exact rfl
    · kernel_rfl
  refine SeqI.nil ?_
  intro _ w1 _ hw1
  dsimp only [List.drop]
  have h2 := H1.out.keep hw1
  obtain ⟨c0, c1, c2, cf, g1, g2⟩ := h2.hc.cell hi
  have hP := HB.out.trans (hw1.mono HB.out.size)
  have HB2 := hid hP
  have HP := hid (h2.hc.put1 hi x)
  clear hP hw1 h2
  go_wp2_with fail
  go_ret
  have hM : Mod (· = g) w _ := Mod.setCell (S := (· = g)) (p := ⟨g, i * 3 + 1, none⟩) (Mod.ofBelow HB2.out) (.inl rfl) (.int .i64 x)
  exact ⟨rfl, HL0.out.turn HP.out (by simp) hM, hM⟩
end Go.Proofs.Ytmgiaedfonaefaa.R
