/- The slab of places: Get, Free of a place that lives. -/
import Derived.Test.YtiddojegcbpafaaN1
import Derived.OwnWalk
namespace Go.Proofs.Ytiddojegcbpafaa.S
set_option maxRecDepth 8000
open Go.ChangeShapes Go.WideShapes Go.ChangeAt Go.RowKit Go.Burg

theorem at_in {b g i : Nat} {l : List (Cel Nd)} {c : Cel Nd} (gen : Int) (w : World) (h : SlabN 145 128 w b g l) (hi : l[i]? = some c) (r : Bool) (hr : (c.is && decide (c.gen = gen)) = r) :
    Calls Try.prog 57 #[.pointer (some ⟨b, 0, none⟩), .agg #[.int .i64 i, .int .u32 gen]] w fun e w' => e = .returned (.tuple #[.pointer (some ⟨g, i * 10, none⟩), .bool r]) ∧ Below w.heap.size w w' := by
  have hil : i < l.length := (List.getElem?_eq_some_iff.1 hi).1
  have hN := heap_new w (.cells #[.int .i64 i, .int .u32 gen] 72)
  have hA := h.alloc (.cells #[.int .i64 i, .int .u32 gen] 72)
  have hp := h.pos
  have ht := h.top
  have hd1 : decide (l.length ≤ i) = false := by simp; exact hil
  have hd2 : decide ((i : Int) < 0) = false := by simp
  have hd3 : decide ((l.length : Int) ≤ (i : Int)) = false := by simp; omega
  obtain ⟨is, x, gn⟩ := c
  obtain ⟨s0, sf⟩ := hA.head
  have n0 := cell_of hN 0
  have n1 := cell_of hN 1
  obtain ⟨⟨c0, c1, c2, c3, c4, c5, c6, c7, c8, c9⟩, cf, _, _⟩ := hA.hc.cell hi
  simp only at c0 c9
  clear c1 c2 c3 c4 c5 c6 c7 c8
  have HR := hid hr
  have HB : Hid (Below w.heap.size w (w.alloc (.cells #[.int .i64 i, .int .u32 gen] 72))) := hid ((Below.refl _ _).alloc (Nat.le_refl _) _)
  generalize hW : w.alloc (.cells #[.int .i64 i, .int .u32 gen] 72) = W at *
  have HW := hid hW
  have hne : w.heap.size ≠ b := by have := h.blt; omega
  clear hr hW
  go_enter Try.func57, Try.ntmps57
  go_wp2_with fail
  rw [HW.out]
  go_quiet (fail)
  go_wp2_with fail
  go_quiet (fail)
  go_wp2_with fail
  cases is
  all_goals
    go_quiet (fail)
    go_wp2
    go_ret2
    refine ⟨?_, below_drewN (below_drewN (below_drewN HB.out))⟩
    have := HR.out
    subst this
    simp
    try rfl

/-- The place that a Ref names, if it is live. -/
def Live (l : List (Cel Nd)) (slot gen : Int) (i : Nat) (c : Cel Nd) : Prop := slot = i ∧ l[i]? = some c ∧ c.is = true ∧ c.gen = gen

theorem at_live {b g i : Nat} {l : List (Cel Nd)} {c : Cel Nd} (slot gen : Int) (w : World) (h : SlabN 145 128 w b g l) (hL : Live l slot gen i c) :
    Calls Try.prog 57 #[.pointer (some ⟨b, 0, none⟩), .agg #[.int .i64 slot, .int .u32 gen]] w fun e w' => e = .returned (.tuple #[.pointer (some ⟨g, i * 10, none⟩), .bool true]) ∧ Below w.heap.size w w' := by
  obtain ⟨rfl, h2, h3, h4⟩ := hL
  exact at_in gen w h h2 true (by simp [h3, h4])

theorem free1_any {g i : Nat} {l : List (Cel Nd)} {c : Cel Nd} (w : World) (h : CellsN 145 w g l) (hi : l[i]? = some c) :
    Calls Try.prog 59 #[.pointer (some ⟨g, i * 10, none⟩)] w fun e w' => e = .returned (.tuple #[]) ∧ CellsN 145 w' g (l.set i ⟨false, Nd.zero, c.gen⟩) ∧ Mod (· = g) w w' := by
  obtain ⟨⟨c0, c1, c2, c3, c4, c5, c6, c7, c8, c9⟩, cf, g1, g2⟩ := h.cell hi
  have HP := hid (h.put hi ⟨false, Nd.zero, c.gen⟩ ⟨g1, g2⟩)
  obtain ⟨is, x, gen⟩ := c
  simp only at c0 c1 c2 c3 c4 c5 c6 c7 c8 c9 g1 g2
  go_enter Try.func59, Try.ntmps59
  go_wp2
  go_end0
  refine ⟨rfl, HP.out, ?_⟩
  exact Mod.setCell (S := (· = g)) (p := ⟨g, i * 10 + 9, none⟩) (Mod.setCell (S := (· = g)) (p := ⟨g, i * 10 + 8, none⟩) (Mod.setCell (S := (· = g)) (p := ⟨g, i * 10 + 7, none⟩) (Mod.setCell (S := (· = g)) (p := ⟨g, i * 10 + 6, none⟩) (Mod.setCell (S := (· = g)) (p := ⟨g, i * 10 + 5, none⟩) (Mod.setCell (S := (· = g)) (p := ⟨g, i * 10 + 4, none⟩) (Mod.setCell (S := (· = g)) (p := ⟨g, i * 10 + 3, none⟩) (Mod.setCell (S := (· = g)) (p := ⟨g, i * 10 + 2, none⟩) (Mod.setCell (S := (· = g)) (p := ⟨g, i * 10 + 1, none⟩) (Mod.setCell (S := (· = g)) (p := ⟨g, i * 10, none⟩) (Mod.refl _ _) (.inl rfl) _) (.inl rfl) _) (.inl rfl) _) (.inl rfl) _) (.inl rfl) _) (.inl rfl) _) (.inl rfl) _) (.inl rfl) _) (.inl rfl) _) (.inl rfl) _


theorem turn_free {b g i : Nat} {l : List (Cel Nd)} {c : Cel Nd} (slot gen : Int) (w : World) (h : SlabN 145 128 w b g l) (hL : Live l slot gen i c) :
    Calls Try.prog 58 #[.pointer (some ⟨b, 0, none⟩), .agg #[.int .i64 slot, .int .u32 gen], .func (.func 59) #[] #[]] w fun e w' => e = .returned (.int .i64 0) ∧ CellsN 145 w' g (l.set i ⟨false, Nd.zero, c.gen⟩) ∧ Mod (· = g) w w' := by
  have hN := heap_new w (.cells #[.int .i64 slot, .int .u32 gen] 72)
  have hA := h.alloc (.cells #[.int .i64 slot, .int .u32 gen] 72)
  have hbl := h.blt
  have hgl := h.glt
  go_enter Try.func58, Try.ntmps58
  go_wp2_with fail
  refine (there_any _ hA).mono ?_
  rintro e w1 ⟨rfl, hw1⟩
  have hS := hA.keep hw1
  have hN2 := blk_below hN hw1 (by simp)
  have hl2 := lt_of_block hN2
  have HB : Hid (Below w.heap.size w w1) := hid (((Below.refl _ _).alloc (Nat.le_refl _) _).trans (hw1.mono (by simp)))
  have hsz := HB.out.size
  clear hw1 hA hN
  rename World => wa
  go_wp2_with fail
  have HD := hid (fun (w1 : World) (hw1 : Below wa.heap.size wa w1) => at_live slot gen w1 (hS.keep hw1) hL)
  refine wp_region_seq 10 (fun w1 => Below (wa).heap.size (wa) w1) (by kernel_rfl) (by kernel_rfl) (by kernel_rfl) ⟨rfl, rfl, rfl, Nat.le_refl _, fun _ _ => rfl⟩ ?_
  dsimp only [List.take]
  iterate 10
    refine Seq.cons (a' := ?_) ?_ ?_ ?_
    rotate_left
    ·
      intro w1 hw1
      have hS := hS.keep hw1
      obtain ⟨s0, sf⟩ := hS.head
      have hn := blk_below hN2 hw1 hl2
      have n0 := cell_of hn 0
      have n1 := cell_of hn 1
      go_wp2_with (go_at_call 57; refine (HD.out _ hw1).mono ?_; rintro e w' ⟨rfl, hb⟩)
      refine ⟨?_, by first | assumption | (simpa using below_chain hw1 hb hw1.size)⟩
      exact rfl
    · kernel_rfl
  refine SeqI.nil ?_
  intro _ w1 _ hw1
  dsimp only [List.drop]
  have hM1 : Mod (· = g) w w1 := Mod.ofBelow (HB.out.trans (hw1.mono hsz))
  have hC1 := (hS.keep hw1).hc
  go_wp2_with fail
  refine (free1_any _ hC1 hL.2.1).mono ?_
  rintro e w2 ⟨rfl, hC2, hM2⟩
  go_wp2
  go_ret
  exact ⟨rfl, hC2, hM1.trans hM2 (fun _ _ h => h)⟩

theorem get_live {b g i : Nat} {l : List (Cel Nd)} {c : Cel Nd} (slot gen : Int) (w : World) (h : SlabN 145 128 w b g l) (hL : Live l slot gen i c) :
    Calls Try.prog 45 #[.pointer (some ⟨b, 0, none⟩), .agg #[.int .i64 slot, .int .u32 gen]] w fun e w' => e = .returned (.tuple #[c.x.V, .bool true]) ∧ Below w.heap.size w w' := by
  have hN := heap_new w (.cells #[.int .i64 slot, .int .u32 gen] 72)
  have hN' := blk_alloc (o' := (.cells #[.int .i64 0, .string ⟨#[]⟩, .string ⟨#[]⟩, .string ⟨#[]⟩, .slice none 0 0, .slice none 0 0, .bool false, .bool false] 101)) hN
  have hZ := heap_new (w.alloc (.cells #[.int .i64 slot, .int .u32 gen] 72)) (.cells #[.int .i64 0, .string ⟨#[]⟩, .string ⟨#[]⟩, .string ⟨#[]⟩, .slice none 0 0, .slice none 0 0, .bool false, .bool false] 101)
  have hs1 : (w.alloc (.cells #[.int .i64 slot, .int .u32 gen] 72)).heap.size = w.heap.size + 1 := by simp
  rw [hs1] at hZ
  have hA := (h.alloc (.cells #[.int .i64 slot, .int .u32 gen] 72)).alloc (.cells #[.int .i64 0, .string ⟨#[]⟩, .string ⟨#[]⟩, .string ⟨#[]⟩, .slice none 0 0, .slice none 0 0, .bool false, .bool false] 101)
  have hbl := h.blt
  have hgl := h.glt
  clear hN hs1
  go_enter Try.func45, Try.ntmps45
  go_wp2_with fail
  refine (there_any _ hA).mono ?_
  rintro e w1 ⟨rfl, hw1⟩
  have hS := hA.keep hw1
  have hN2 := blk_below hN' hw1 (by simp; omega)
  have hZ2 := blk_below hZ hw1 (by simp)
  have hl2 := lt_of_block hN2
  have hl3 := lt_of_block hZ2
  have HB : Hid (Below w.heap.size w w1) := hid ((((Below.refl _ _).alloc (Nat.le_refl _) _).alloc (by simp) _).trans (hw1.mono (by simp; omega)))
  have hsz := HB.out.size
  clear hw1 hA hN' hZ
  rename World => wa
  go_wp2_with fail
  have HD := hid (fun (w1 : World) (hw1 : Below wa.heap.size wa w1) => at_live slot gen w1 (hS.keep hw1) hL)
  refine wp_region_seq 10 (fun w1 => Below (wa).heap.size (wa) w1) (by kernel_rfl) (by kernel_rfl) (by kernel_rfl) ⟨rfl, rfl, rfl, Nat.le_refl _, fun _ _ => rfl⟩ ?_
  dsimp only [List.take]
  iterate 10
    refine Seq.cons (a' := ?_) ?_ ?_ ?_
    rotate_left
    ·
      intro w1 hw1
      have hS := hS.keep hw1
      obtain ⟨s0, sf⟩ := hS.head
      have hn := blk_below hN2 hw1 hl2
      have n0 := cell_of hn 0
      have n1 := cell_of hn 1
      go_wp2_with (go_at_call 57; refine (HD.out _ hw1).mono ?_; rintro e w' ⟨rfl, hb⟩)
      refine ⟨?_, by first | assumption | (simpa using below_chain hw1 hb hw1.size)⟩
      exact rfl
    · kernel_rfl
  refine SeqI.nil ?_
  intro _ w1 _ hw1
  dsimp only [List.drop]
  obtain ⟨⟨c0, c1, c2, c3, c4, c5, c6, c7, c8, c9⟩, cf, _, _⟩ := (hS.keep hw1).hc.cell hL.2.1
  have hZ3 := blk_below hZ2 hw1 hl3
  have z0 := cell_of hZ3 0
  have z1 := cell_of hZ3 1
  have z2 := cell_of hZ3 2
  have z3 := cell_of hZ3 3
  have z4 := cell_of hZ3 4
  have z5 := cell_of hZ3 5
  have z6 := cell_of hZ3 6
  have z7 := cell_of hZ3 7
  have zf := free_of hZ3
  have HB3 := hid (HB.out.trans (hw1.mono hsz))
  clear c0 c9 hZ3 hN2 hZ2 HB
  obtain ⟨is, ⟨kn, cd, vl, pt, ⟨ya, yn, yc⟩, ⟨za, zn, zc⟩, pl, di⟩, gn⟩ := c
  simp only at c1 c2 c3 c4 c5 c6 c7 c8
  go_wp2
  refine bodyPost_ret (v := .tuple #[.agg #[_, _, _, _, _, _, _, _], _]) (by simp [results, Try.results45, go_sem, z0, z1, z2, z3, z4, z5, z6, z7]) rfl ⟨rfl, ?_⟩
  repeat refine Below.setCell ?_ (Nat.le_succ _) _
  exact HB3.out

theorem free_live {b g i : Nat} {l : List (Cel Nd)} {c : Cel Nd} (slot gen : Int) (w : World) (h : SlabN 145 128 w b g l) (hL : Live l slot gen i c) :
    Calls Try.prog 48 #[.pointer (some ⟨b, 0, none⟩), .agg #[.int .i64 slot, .int .u32 gen]] w fun e w' => e = .returned (.int .i64 0) ∧ SlabN 145 128 w' b g (l.set i ⟨false, Nd.zero, c.gen⟩) ∧ Mod (· = g) w w' := by
  have hA := h.alloc (.cells #[.int .i64 slot, .int .u32 gen] 72)
  have hbl := h.blt
  have hgl := h.glt
  have n0 := cell_of (heap_new w (.cells #[.int .i64 slot, .int .u32 gen] 72)) 0
  have n1 := cell_of (heap_new w (.cells #[.int .i64 slot, .int .u32 gen] 72)) 1
  go_enter Try.func48, Try.ntmps48
  go_wp2_with fail
  refine (turn_free slot gen _ hA hL).mono ?_
  rintro e w1 ⟨rfl, hC, hM⟩
  go_wp2
  go_ret
  have hM1 := ((Mod.refl (· = g) w).alloc (.cells #[.int .i64 slot, .int .u32 gen] 72)).trans hM (fun _ _ h => h)
  exact ⟨rfl, h.turn hC (by simp) hM1, hM1⟩
end Go.Proofs.Ytiddojegcbpafaa.S
