/- The slab's turns: Free, Set, Get (string). -/
import Derived.Test.YtmgiaedfonaefaaSlabS1
namespace Go.Proofs.Ytmgiaedfonaefaa.S
open Go.ChangeShapes Go.WideShapes Go.ChangeAt Go.RowKit Go.Burg

theorem turn_dead {b g : Nat} {l : List (Cel ByteArray)} (slot gen : Int) (f : Value) (w : World) (h : SlabAt (fun x : ByteArray => (.string x)) 93 90 w b g l) (hd : ∀ i c, ¬ Live l slot gen i c) :
    Calls Try.prog 47 #[.pointer (some ⟨b, 0, none⟩), .agg #[.int .i64 slot, .int .u32 gen], f] w fun e w' => e = .returned (.int .i64 5) ∧ Below w.heap.size w w' := by
  have hN := heap_new w (.cells #[.int .i64 slot, .int .u32 gen] 31)
  have hA := h.alloc (.cells #[.int .i64 slot, .int .u32 gen] 31)
  have hbl := h.blt
  have hgl := h.glt
  go_enter Try.func47, Try.ntmps47
  go_wp2_with fail
  refine (there_any _ hA).mono ?_
  rintro e w1 ⟨rfl, hw1⟩
  have hS := hA.keep hw1
  have hN2 := blk_below hN hw1 (by simp)
  have hl2 := lt_of_block hN2
  have HB : Hid (Below w.heap.size w w1) := hid (((Below.refl _ _).alloc (Nat.le_refl _) _).trans (hw1.mono (by simp)))
  have hsz := HB.out.size
  clear hw1 hA hN
  rename World => wa
  go_wp2_with fail
  obtain ⟨p, HP⟩ := at_dead (b := b) (g := g) slot gen hd
  have HD := hid (fun (w1 : World) (hw1 : Below wa.heap.size wa w1) => HP w1 (hS.keep hw1))
  clear HP
  refine wp_region_seq 10 (fun w1 => Below (wa).heap.size (wa) w1) (by kernel_rfl) (by kernel_rfl) (by kernel_rfl) ⟨rfl, rfl, rfl, Nat.le_refl _, fun _ _ => rfl⟩ ?_
  dsimp only [List.take]
  iterate 10
    refine Seq.cons (a' := ?_) ?_ ?_ ?_
    rotate_left
    ·
      intro w1 hw1
      have hS := hS.keep hw1
      obtain ⟨s0, sf⟩ := hS.head
      have hn := blk_below hN2 hw1 hl2
      have n0 := cell_of hn 0
      have n1 := cell_of hn 1
      go_wp2_with (go_at_call 49; refine (HD.out _ hw1).mono ?_; rintro e w' ⟨rfl, hb⟩)
      refine ⟨?_, by first | assumption | (simpa using below_chain hw1 hb hw1.size)⟩
      exact rfl
    · kernel_rfl
  refine SeqI.nil ?_
  intro _ w1 _ hw1
  dsimp only [List.drop]
  go_wp2
  go_ret
  exact ⟨rfl, HB.out.trans (hw1.mono hsz)⟩


theorem turn_free {b g i : Nat} {l : List (Cel ByteArray)} {c : Cel ByteArray} (slot gen : Int) (w : World) (h : SlabAt (fun x : ByteArray => (.string x)) 93 90 w b g l) (hL : Live l slot gen i c) :
    Calls Try.prog 47 #[.pointer (some ⟨b, 0, none⟩), .agg #[.int .i64 slot, .int .u32 gen], .func (.func 48) #[] #[]] w fun e w' => e = .returned (.int .i64 0) ∧ CellsAt (fun x : ByteArray => (.string x)) 93 w' g (l.set i ⟨false, (⟨#[]⟩ : ByteArray), c.gen⟩) ∧ Mod (· = g) w w' := by
  have hN := heap_new w (.cells #[.int .i64 slot, .int .u32 gen] 31)
  have hA := h.alloc (.cells #[.int .i64 slot, .int .u32 gen] 31)
  have hbl := h.blt
  have hgl := h.glt
  go_enter Try.func47, Try.ntmps47
  go_wp2_with fail
  refine (there_any _ hA).mono ?_
  rintro e w1 ⟨rfl, hw1⟩
  have hS := hA.keep hw1
  have hN2 := blk_below hN hw1 (by simp)
  have hl2 := lt_of_block hN2
  have HB : Hid (Below w.heap.size w w1) := hid (((Below.refl _ _).alloc (Nat.le_refl _) _).trans (hw1.mono (by simp)))
  have hsz := HB.out.size
  clear hw1 hA hN
  rename World => wa
  go_wp2_with fail
  have HD := hid (fun (w1 : World) (hw1 : Below wa.heap.size wa w1) => at_live slot gen w1 (hS.keep hw1) hL)
  refine wp_region_seq 10 (fun w1 => Below (wa).heap.size (wa) w1) (by kernel_rfl) (by kernel_rfl) (by kernel_rfl) ⟨rfl, rfl, rfl, Nat.le_refl _, fun _ _ => rfl⟩ ?_
  dsimp only [List.take]
  iterate 10
    refine Seq.cons (a' := ?_) ?_ ?_ ?_
    rotate_left
    ·
      intro w1 hw1
      have hS := hS.keep hw1
      obtain ⟨s0, sf⟩ := hS.head
      have hn := blk_below hN2 hw1 hl2
      have n0 := cell_of hn 0
      have n1 := cell_of hn 1
      go_wp2_with (go_at_call 49; refine (HD.out _ hw1).mono ?_; rintro e w' ⟨rfl, hb⟩)
      refine ⟨?_, by first | assumption | (simpa using below_chain hw1 hb hw1.size)⟩
      exact rfl
    · kernel_rfl
  refine SeqI.nil ?_
  intro _ w1 _ hw1
  dsimp only [List.drop]
  have hM1 : Mod (· = g) w w1 := Mod.ofBelow (HB.out.trans (hw1.mono hsz))
  have hC1 := (hS.keep hw1).hc
  go_wp2_with fail
  refine (free1_any _ hC1 hL.2.1).mono ?_
  rintro e w2 ⟨rfl, hC2, hM2⟩
  go_wp2
  go_ret
  exact ⟨rfl, hC2, hM1.trans hM2 (fun _ _ h => h)⟩

theorem get_dead {b g : Nat} {l : List (Cel ByteArray)} (slot gen : Int) (w : World) (h : SlabAt (fun x : ByteArray => (.string x)) 93 90 w b g l) (hd : ∀ i c, ¬ Live l slot gen i c) :
    Calls Try.prog 25 #[.pointer (some ⟨b, 0, none⟩), .agg #[.int .i64 slot, .int .u32 gen]] w fun e w' => e = .returned (.tuple #[(.string (⟨#[]⟩ : ByteArray)), .bool false]) ∧ Below w.heap.size w w' := by
  have hN := heap_new w (.cells #[.int .i64 slot, .int .u32 gen] 31)
  have hA := h.alloc (.cells #[.int .i64 slot, .int .u32 gen] 31)
  have hbl := h.blt
  have hgl := h.glt
  go_enter Try.func25, Try.ntmps25
  go_wp2_with fail
  refine (there_any _ hA).mono ?_
  rintro e w1 ⟨rfl, hw1⟩
  have hS := hA.keep hw1
  have hN2 := blk_below hN hw1 (by simp)
  have hl2 := lt_of_block hN2
  have HB : Hid (Below w.heap.size w w1) := hid (((Below.refl _ _).alloc (Nat.le_refl _) _).trans (hw1.mono (by simp)))
  have hsz := HB.out.size
  clear hw1 hA hN
  rename World => wa
  go_wp2_with fail
  obtain ⟨p, HP⟩ := at_dead (b := b) (g := g) slot gen hd
  have HD := hid (fun (w1 : World) (hw1 : Below wa.heap.size wa w1) => HP w1 (hS.keep hw1))
  clear HP
  refine wp_region_seq 10 (fun w1 => Below (wa).heap.size (wa) w1) (by kernel_rfl) (by kernel_rfl) (by kernel_rfl) ⟨rfl, rfl, rfl, Nat.le_refl _, fun _ _ => rfl⟩ ?_
  dsimp only [List.take]
  iterate 10
    refine Seq.cons (a' := ?_) ?_ ?_ ?_
    rotate_left
    ·
      intro w1 hw1
      have hS := hS.keep hw1
      obtain ⟨s0, sf⟩ := hS.head
      have hn := blk_below hN2 hw1 hl2
      have n0 := cell_of hn 0
      have n1 := cell_of hn 1
      go_wp2_with (go_at_call 49; refine (HD.out _ hw1).mono ?_; rintro e w' ⟨rfl, hb⟩)
      refine ⟨?_, by first | assumption | (simpa using below_chain hw1 hb hw1.size)⟩
      exact rfl
    · kernel_rfl
  refine SeqI.nil ?_
  intro _ w1 _ hw1
  dsimp only [List.drop]
  go_wp2
  go_ret2
  exact ⟨rfl, HB.out.trans (hw1.mono hsz)⟩

theorem get_live {b g i : Nat} {l : List (Cel ByteArray)} {c : Cel ByteArray} (slot gen : Int) (w : World) (h : SlabAt (fun x : ByteArray => (.string x)) 93 90 w b g l) (hL : Live l slot gen i c) :
    Calls Try.prog 25 #[.pointer (some ⟨b, 0, none⟩), .agg #[.int .i64 slot, .int .u32 gen]] w fun e w' => e = .returned (.tuple #[(.string c.x), .bool true]) ∧ Below w.heap.size w w' := by
  have hN := heap_new w (.cells #[.int .i64 slot, .int .u32 gen] 31)
  have hA := h.alloc (.cells #[.int .i64 slot, .int .u32 gen] 31)
  have hbl := h.blt
  have hgl := h.glt
  go_enter Try.func25, Try.ntmps25
  go_wp2_with fail
  refine (there_any _ hA).mono ?_
  rintro e w1 ⟨rfl, hw1⟩
  have hS := hA.keep hw1
  have hN2 := blk_below hN hw1 (by simp)
  have hl2 := lt_of_block hN2
  have HB : Hid (Below w.heap.size w w1) := hid (((Below.refl _ _).alloc (Nat.le_refl _) _).trans (hw1.mono (by simp)))
  have hsz := HB.out.size
  clear hw1 hA hN
  rename World => wa
  go_wp2_with fail
  have HD := hid (fun (w1 : World) (hw1 : Below wa.heap.size wa w1) => at_live slot gen w1 (hS.keep hw1) hL)
  refine wp_region_seq 10 (fun w1 => Below (wa).heap.size (wa) w1) (by kernel_rfl) (by kernel_rfl) (by kernel_rfl) ⟨rfl, rfl, rfl, Nat.le_refl _, fun _ _ => rfl⟩ ?_
  dsimp only [List.take]
  iterate 10
    refine Seq.cons (a' := ?_) ?_ ?_ ?_
    rotate_left
    ·
      intro w1 hw1
      have hS := hS.keep hw1
      obtain ⟨s0, sf⟩ := hS.head
      have hn := blk_below hN2 hw1 hl2
      have n0 := cell_of hn 0
      have n1 := cell_of hn 1
      go_wp2_with (go_at_call 49; refine (HD.out _ hw1).mono ?_; rintro e w' ⟨rfl, hb⟩)
      refine ⟨?_, by first | assumption | (simpa using below_chain hw1 hb hw1.size)⟩
      exact rfl
    · kernel_rfl
  refine SeqI.nil ?_
  intro _ w1 _ hw1
  dsimp only [List.drop]
  obtain ⟨c0, c1, c2, cf, _, _⟩ := (hS.keep hw1).hc.cell hL.2.1
  clear c0 c2
  go_wp2
  go_ret2
  exact ⟨rfl, HB.out.trans (hw1.mono hsz)⟩


theorem free_dead {b g : Nat} {l : List (Cel ByteArray)} (slot gen : Int) (w : World) (h : SlabAt (fun x : ByteArray => (.string x)) 93 90 w b g l) (hd : ∀ i c, ¬ Live l slot gen i c) :
    Calls Try.prog 24 #[.pointer (some ⟨b, 0, none⟩), .agg #[.int .i64 slot, .int .u32 gen]] w fun e w' => e = .returned (.int .i64 5) ∧ Below w.heap.size w w' := by
  have hA := h.alloc (.cells #[.int .i64 slot, .int .u32 gen] 31)
  have hbl := h.blt
  have hgl := h.glt
  have n0 := cell_of (heap_new w (.cells #[.int .i64 slot, .int .u32 gen] 31)) 0
  have n1 := cell_of (heap_new w (.cells #[.int .i64 slot, .int .u32 gen] 31)) 1
  go_enter Try.func24, Try.ntmps24
  go_wp2_with fail
  refine (turn_dead slot gen _ _ hA hd).mono ?_
  rintro e w1 ⟨rfl, hw1⟩
  go_wp2
  go_ret
  exact ⟨rfl, ((Below.refl _ _).alloc (Nat.le_refl _) _).trans (hw1.mono (by simp))⟩

theorem free_live {b g i : Nat} {l : List (Cel ByteArray)} {c : Cel ByteArray} (slot gen : Int) (w : World) (h : SlabAt (fun x : ByteArray => (.string x)) 93 90 w b g l) (hL : Live l slot gen i c) :
    Calls Try.prog 24 #[.pointer (some ⟨b, 0, none⟩), .agg #[.int .i64 slot, .int .u32 gen]] w fun e w' => e = .returned (.int .i64 0) ∧ SlabAt (fun x : ByteArray => (.string x)) 93 90 w' b g (l.set i ⟨false, (⟨#[]⟩ : ByteArray), c.gen⟩) ∧ Mod (· = g) w w' := by
  have hA := h.alloc (.cells #[.int .i64 slot, .int .u32 gen] 31)
  have hbl := h.blt
  have hgl := h.glt
  have n0 := cell_of (heap_new w (.cells #[.int .i64 slot, .int .u32 gen] 31)) 0
  have n1 := cell_of (heap_new w (.cells #[.int .i64 slot, .int .u32 gen] 31)) 1
  go_enter Try.func24, Try.ntmps24
  go_wp2_with fail
  refine (turn_free slot gen _ hA hL).mono ?_
  rintro e w1 ⟨rfl, hC, hM⟩
  go_wp2
  go_ret
  have hM1 := ((Mod.refl (· = g) w).alloc (.cells #[.int .i64 slot, .int .u32 gen] 31)).trans hM (fun _ _ h => h)
  exact ⟨rfl, h.turn hC (by simp) hM1, hM1⟩

end Go.Proofs.Ytmgiaedfonaefaa.S
