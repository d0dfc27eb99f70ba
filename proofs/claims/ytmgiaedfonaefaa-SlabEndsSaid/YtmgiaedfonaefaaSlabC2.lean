/- The slab's turns: Free, Set, Get (int). -/
import Derived.Test.YtmgiaedfonaefaaSlabC1
namespace Go.Proofs.Ytmgiaedfonaefaa.C
open Go.Proofs.Ytmgiaedfonaefaa.I (Live room_any len1_any free1_any set1_any room_is len1_is)
open Go.ChangeShapes Go.WideShapes Go.ChangeAt Go.RowKit Go.Burg

theorem turn_dead {b g cp : Nat} {l : List (Cel Int)} (slot gen : Int) (f : Value) (w : World) (h : SlabC (fun x : Int => (.int .i64 x)) 69 66 w b g cp l) (hd : ∀ i c, ¬ Live l slot gen i c) :
    Calls Try.prog 30 #[.pointer (some ⟨b, 0, none⟩), .agg #[.int .i64 slot, .int .u32 gen], f] w fun e w' => e = .returned (.int .i64 5) ∧ Below w.heap.size w w' := by
  have hN := heap_new w (.cells #[.int .i64 slot, .int .u32 gen] 31)
  have hA := h.alloc (.cells #[.int .i64 slot, .int .u32 gen] 31)
  have hbl := h.blt
  have hgl := h.glt
  go_enter Try.func30, Try.ntmps30
  go_wp2_with fail
  refine (there_any _ hA).mono ?_
  rintro e w1 ⟨rfl, hw1⟩
  have hS := hA.keep hw1
  have hN2 := blk_below hN hw1 (by simp)
  have hl2 := lt_of_block hN2
  have HB : Hid (Below w.heap.size w w1) := hid (((Below.refl _ _).alloc (Nat.le_refl _) _).trans (hw1.mono (by simp)))
  have hsz := HB.out.size
  clear hw1 hA hN
  rename World => wa
  go_wp2_with fail
  obtain ⟨p, HP⟩ := at_dead (b := b) (g := g) slot gen hd
  have HD := hid (fun (w1 : World) (hw1 : Below wa.heap.size wa w1) => HP w1 (hS.keep hw1))
  clear HP
  refine wp_region_seq 10 (fun w1 => Below (wa).heap.size (wa) w1) (by kernel_rfl) (by kernel_rfl) (by kernel_rfl) ⟨rfl, rfl, rfl, Nat.le_refl _, fun _ _ => rfl⟩ ?_
  dsimp only [List.take]
  iterate 10
    refine Seq.cons (a' := ?_) ?_ ?_ ?_
    rotate_left
    ·
      intro w1 hw1
      have hS := hS.keep hw1
      obtain ⟨s0, sf⟩ := hS.head
      have hn := blk_below hN2 hw1 hl2
      have n0 := cell_of hn 0
      have n1 := cell_of hn 1
      go_wp2_with (go_at_call 32; refine (HD.out _ hw1).mono ?_; rintro e w' ⟨rfl, hb⟩)
      refine ⟨?_, by first | assumption | (simpa using below_chain hw1 hb hw1.size)⟩
      exact rfl
    · kernel_rfl
  refine SeqI.nil ?_
  intro _ w1 _ hw1
  dsimp only [List.drop]
  go_wp2
  go_ret
  exact ⟨rfl, HB.out.trans (hw1.mono hsz)⟩


theorem turn_free {b g cp i : Nat} {l : List (Cel Int)} {c : Cel Int} (slot gen : Int) (w : World) (h : SlabC (fun x : Int => (.int .i64 x)) 69 66 w b g cp l) (hL : Live l slot gen i c) :
    Calls Try.prog 30 #[.pointer (some ⟨b, 0, none⟩), .agg #[.int .i64 slot, .int .u32 gen], .func (.func 31) #[] #[]] w fun e w' => e = .returned (.int .i64 0) ∧ CellsAt (fun x : Int => (.int .i64 x)) 69 w' g (l.set i ⟨false, 0, c.gen⟩) ∧ Mod (· = g) w w' := by
  have hN := heap_new w (.cells #[.int .i64 slot, .int .u32 gen] 31)
  have hA := h.alloc (.cells #[.int .i64 slot, .int .u32 gen] 31)
  have hbl := h.blt
  have hgl := h.glt
  go_enter Try.func30, Try.ntmps30
  go_wp2_with fail
  refine (there_any _ hA).mono ?_
  rintro e w1 ⟨rfl, hw1⟩
  have hS := hA.keep hw1
  have hN2 := blk_below hN hw1 (by simp)
  have hl2 := lt_of_block hN2
  have HB : Hid (Below w.heap.size w w1) := hid (((Below.refl _ _).alloc (Nat.le_refl _) _).trans (hw1.mono (by simp)))
  have hsz := HB.out.size
  clear hw1 hA hN
  rename World => wa
  go_wp2_with fail
  have HD := hid (fun (w1 : World) (hw1 : Below wa.heap.size wa w1) => at_live slot gen w1 (hS.keep hw1) hL)
  refine wp_region_seq 10 (fun w1 => Below (wa).heap.size (wa) w1) (by kernel_rfl) (by kernel_rfl) (by kernel_rfl) ⟨rfl, rfl, rfl, Nat.le_refl _, fun _ _ => rfl⟩ ?_
  dsimp only [List.take]
  iterate 10
    refine Seq.cons (a' := ?_) ?_ ?_ ?_
    rotate_left
    ·
      intro w1 hw1
      have hS := hS.keep hw1
      obtain ⟨s0, sf⟩ := hS.head
      have hn := blk_below hN2 hw1 hl2
      have n0 := cell_of hn 0
      have n1 := cell_of hn 1
      go_wp2_with (go_at_call 32; refine (HD.out _ hw1).mono ?_; rintro e w' ⟨rfl, hb⟩)
      refine ⟨?_, by first | assumption | (simpa using below_chain hw1 hb hw1.size)⟩
      exact rfl
    · kernel_rfl
  refine SeqI.nil ?_
  intro _ w1 _ hw1
  dsimp only [List.drop]
  have hM1 : Mod (· = g) w w1 := Mod.ofBelow (HB.out.trans (hw1.mono hsz))
  have hC1 := (hS.keep hw1).hc
  go_wp2_with fail
  refine (free1_any _ hC1 hL.2.1).mono ?_
  rintro e w2 ⟨rfl, hC2, hM2⟩
  go_wp2
  go_ret
  exact ⟨rfl, hC2, hM1.trans hM2 (fun _ _ h => h)⟩

theorem turn_set {b g cp i d : Nat} {l : List (Cel Int)} {c : Cel Int} (slot gen : Int) (x : Int) (w : World) (h : SlabC (fun x : Int => (.int .i64 x)) 69 66 w b g cp l) (hL : Live l slot gen i c) (hx : w.heap[d]? = some (.cells #[(.int .i64 x)] 3 (0, 0))) :
    Calls Try.prog 30 #[.pointer (some ⟨b, 0, none⟩), .agg #[.int .i64 slot, .int .u32 gen], .func (.func 34) #[] #[.pointer (some ⟨d, 0, none⟩)]] w fun e w' => e = .returned (.int .i64 0) ∧ CellsAt (fun x : Int => (.int .i64 x)) 69 w' g (l.set i ⟨c.is, x, c.gen⟩) ∧ Mod (· = g) w w' := by
  have hdl := lt_of_block hx
  have hN := heap_new w (.cells #[.int .i64 slot, .int .u32 gen] 31)
  have hA := h.alloc (.cells #[.int .i64 slot, .int .u32 gen] 31)
  have hbl := h.blt
  have hgl := h.glt
  go_enter Try.func30, Try.ntmps30
  go_wp2_with fail
  refine (there_any _ hA).mono ?_
  rintro e w1 ⟨rfl, hw1⟩
  have hS := hA.keep hw1
  have hN2 := blk_below hN hw1 (by simp)
  have hl2 := lt_of_block hN2
  have HB : Hid (Below w.heap.size w w1) := hid (((Below.refl _ _).alloc (Nat.le_refl _) _).trans (hw1.mono (by simp)))
  have hsz := HB.out.size
  clear hw1 hA hN
  rename World => wa
  go_wp2_with fail
  have HD := hid (fun (w1 : World) (hw1 : Below wa.heap.size wa w1) => at_live slot gen w1 (hS.keep hw1) hL)
  refine wp_region_seq 10 (fun w1 => Below (wa).heap.size (wa) w1) (by kernel_rfl) (by kernel_rfl) (by kernel_rfl) ⟨rfl, rfl, rfl, Nat.le_refl _, fun _ _ => rfl⟩ ?_
  dsimp only [List.take]
  iterate 10
    refine Seq.cons (a' := ?_) ?_ ?_ ?_
    rotate_left
    ·
      intro w1 hw1
      have hS := hS.keep hw1
      obtain ⟨s0, sf⟩ := hS.head
      have hn := blk_below hN2 hw1 hl2
      have n0 := cell_of hn 0
      have n1 := cell_of hn 1
      go_wp2_with (go_at_call 32; refine (HD.out _ hw1).mono ?_; rintro e w' ⟨rfl, hb⟩)
      refine ⟨?_, by first | assumption | (simpa using below_chain hw1 hb hw1.size)⟩
      exact rfl
    · kernel_rfl
  refine SeqI.nil ?_
  intro _ w1 _ hw1
  dsimp only [List.drop]
  have hM1 : Mod (· = g) w w1 := Mod.ofBelow (HB.out.trans (hw1.mono hsz))
  have hC1 := (hS.keep hw1).hc
  have hx1 : w1.heap[d]? = some (.cells #[(.int .i64 x)] 3 (0, 0)) := (hw1.block d (by omega)).trans ((HB.out.block d hdl).trans hx)
  go_wp2_with fail
  refine (set1_any x _ hC1 hL.2.1 hx1).mono ?_
  rintro e w2 ⟨rfl, hC2, hM2⟩
  go_wp2
  go_ret
  exact ⟨rfl, hC2, hM1.trans hM2 (fun _ _ h => h)⟩

theorem get_dead {b g cp : Nat} {l : List (Cel Int)} (slot gen : Int) (w : World) (h : SlabC (fun x : Int => (.int .i64 x)) 69 66 w b g cp l) (hd : ∀ i c, ¬ Live l slot gen i c) :
    Calls Try.prog 13 #[.pointer (some ⟨b, 0, none⟩), .agg #[.int .i64 slot, .int .u32 gen]] w fun e w' => e = .returned (.tuple #[(.int .i64 0), .bool false]) ∧ Below w.heap.size w w' := by
  have hN := heap_new w (.cells #[.int .i64 slot, .int .u32 gen] 31)
  have hA := h.alloc (.cells #[.int .i64 slot, .int .u32 gen] 31)
  have hbl := h.blt
  have hgl := h.glt
  go_enter Try.func13, Try.ntmps13
  go_wp2_with fail
  refine (there_any _ hA).mono ?_
  rintro e w1 ⟨rfl, hw1⟩
  have hS := hA.keep hw1
  have hN2 := blk_below hN hw1 (by simp)
  have hl2 := lt_of_block hN2
  have HB : Hid (Below w.heap.size w w1) := hid (((Below.refl _ _).alloc (Nat.le_refl _) _).trans (hw1.mono (by simp)))
  have hsz := HB.out.size
  clear hw1 hA hN
  rename World => wa
  go_wp2_with fail
  obtain ⟨p, HP⟩ := at_dead (b := b) (g := g) slot gen hd
  have HD := hid (fun (w1 : World) (hw1 : Below wa.heap.size wa w1) => HP w1 (hS.keep hw1))
  clear HP
  refine wp_region_seq 10 (fun w1 => Below (wa).heap.size (wa) w1) (by kernel_rfl) (by kernel_rfl) (by kernel_rfl) ⟨rfl, rfl, rfl, Nat.le_refl _, fun _ _ => rfl⟩ ?_
  dsimp only [List.take]
  iterate 10
    refine Seq.cons (a' := ?_) ?_ ?_ ?_
    rotate_left
    ·
      intro w1 hw1
      have hS := hS.keep hw1
      obtain ⟨s0, sf⟩ := hS.head
      have hn := blk_below hN2 hw1 hl2
      have n0 := cell_of hn 0
      have n1 := cell_of hn 1
      go_wp2_with (go_at_call 32; refine (HD.out _ hw1).mono ?_; rintro e w' ⟨rfl, hb⟩)
      refine ⟨?_, by first | assumption | (simpa using below_chain hw1 hb hw1.size)⟩
      exact rfl
    · kernel_rfl
  refine SeqI.nil ?_
  intro _ w1 _ hw1
  dsimp only [List.drop]
  go_wp2
  go_ret2
  exact ⟨rfl, HB.out.trans (hw1.mono hsz)⟩

theorem get_live {b g cp i : Nat} {l : List (Cel Int)} {c : Cel Int} (slot gen : Int) (w : World) (h : SlabC (fun x : Int => (.int .i64 x)) 69 66 w b g cp l) (hL : Live l slot gen i c) :
    Calls Try.prog 13 #[.pointer (some ⟨b, 0, none⟩), .agg #[.int .i64 slot, .int .u32 gen]] w fun e w' => e = .returned (.tuple #[(.int .i64 c.x), .bool true]) ∧ Below w.heap.size w w' := by
  have hN := heap_new w (.cells #[.int .i64 slot, .int .u32 gen] 31)
  have hA := h.alloc (.cells #[.int .i64 slot, .int .u32 gen] 31)
  have hbl := h.blt
  have hgl := h.glt
  go_enter Try.func13, Try.ntmps13
  go_wp2_with fail
  refine (there_any _ hA).mono ?_
  rintro e w1 ⟨rfl, hw1⟩
  have hS := hA.keep hw1
  have hN2 := blk_below hN hw1 (by simp)
  have hl2 := lt_of_block hN2
  have HB : Hid (Below w.heap.size w w1) := hid (((Below.refl _ _).alloc (Nat.le_refl _) _).trans (hw1.mono (by simp)))
  have hsz := HB.out.size
  clear hw1 hA hN
  rename World => wa
  go_wp2_with fail
  have HD := hid (fun (w1 : World) (hw1 : Below wa.heap.size wa w1) => at_live slot gen w1 (hS.keep hw1) hL)
  refine wp_region_seq 10 (fun w1 => Below (wa).heap.size (wa) w1) (by kernel_rfl) (by kernel_rfl) (by kernel_rfl) ⟨rfl, rfl, rfl, Nat.le_refl _, fun _ _ => rfl⟩ ?_
  dsimp only [List.take]
  iterate 10
    refine Seq.cons (a' := ?_) ?_ ?_ ?_
    rotate_left
    ·
      intro w1 hw1
      have hS := hS.keep hw1
      obtain ⟨s0, sf⟩ := hS.head
      have hn := blk_below hN2 hw1 hl2
      have n0 := cell_of hn 0
      have n1 := cell_of hn 1
      go_wp2_with (go_at_call 32; refine (HD.out _ hw1).mono ?_; rintro e w' ⟨rfl, hb⟩)
      refine ⟨?_, by first | assumption | (simpa using below_chain hw1 hb hw1.size)⟩
      exact rfl
    · kernel_rfl
  refine SeqI.nil ?_
  intro _ w1 _ hw1
  dsimp only [List.drop]
  obtain ⟨c0, c1, c2, cf, _, _⟩ := (hS.keep hw1).hc.cell hL.2.1
  clear c0 c2
  go_wp2
  go_ret2
  exact ⟨rfl, HB.out.trans (hw1.mono hsz)⟩


theorem free_dead {b g cp : Nat} {l : List (Cel Int)} (slot gen : Int) (w : World) (h : SlabC (fun x : Int => (.int .i64 x)) 69 66 w b g cp l) (hd : ∀ i c, ¬ Live l slot gen i c) :
    Calls Try.prog 12 #[.pointer (some ⟨b, 0, none⟩), .agg #[.int .i64 slot, .int .u32 gen]] w fun e w' => e = .returned (.int .i64 5) ∧ Below w.heap.size w w' := by
  have hA := h.alloc (.cells #[.int .i64 slot, .int .u32 gen] 31)
  have hbl := h.blt
  have hgl := h.glt
  have n0 := cell_of (heap_new w (.cells #[.int .i64 slot, .int .u32 gen] 31)) 0
  have n1 := cell_of (heap_new w (.cells #[.int .i64 slot, .int .u32 gen] 31)) 1
  go_enter Try.func12, Try.ntmps12
  go_wp2_with fail
  refine (turn_dead slot gen _ _ hA hd).mono ?_
  rintro e w1 ⟨rfl, hw1⟩
  go_wp2
  go_ret
  exact ⟨rfl, ((Below.refl _ _).alloc (Nat.le_refl _) _).trans (hw1.mono (by simp))⟩

theorem free_live {b g cp i : Nat} {l : List (Cel Int)} {c : Cel Int} (slot gen : Int) (w : World) (h : SlabC (fun x : Int => (.int .i64 x)) 69 66 w b g cp l) (hL : Live l slot gen i c) :
    Calls Try.prog 12 #[.pointer (some ⟨b, 0, none⟩), .agg #[.int .i64 slot, .int .u32 gen]] w fun e w' => e = .returned (.int .i64 0) ∧ SlabC (fun x : Int => (.int .i64 x)) 69 66 w' b g cp (l.set i ⟨false, 0, c.gen⟩) ∧ Mod (· = g) w w' := by
  have hA := h.alloc (.cells #[.int .i64 slot, .int .u32 gen] 31)
  have hbl := h.blt
  have hgl := h.glt
  have n0 := cell_of (heap_new w (.cells #[.int .i64 slot, .int .u32 gen] 31)) 0
  have n1 := cell_of (heap_new w (.cells #[.int .i64 slot, .int .u32 gen] 31)) 1
  go_enter Try.func12, Try.ntmps12
  go_wp2_with fail
  refine (turn_free slot gen _ hA hL).mono ?_
  rintro e w1 ⟨rfl, hC, hM⟩
  go_wp2
  go_ret
  have hM1 := ((Mod.refl (· = g) w).alloc (.cells #[.int .i64 slot, .int .u32 gen] 31)).trans hM (fun _ _ h => h)
  exact ⟨rfl, h.turn hC (by simp) hM1, hM1⟩

theorem set_dead {b g cp : Nat} {l : List (Cel Int)} (slot gen : Int) (x : Int) (w : World) (h : SlabC (fun x : Int => (.int .i64 x)) 69 66 w b g cp l) (hd : ∀ i c, ¬ Live l slot gen i c) :
    Calls Try.prog 16 #[.pointer (some ⟨b, 0, none⟩), .agg #[.int .i64 slot, .int .u32 gen], (.int .i64 x)] w fun e w' => e = .returned (.int .i64 5) ∧ Below w.heap.size w w' := by
  have hA := h.alloc (.cells #[.int .i64 slot, .int .u32 gen] 31)
  have hbl := h.blt
  have hgl := h.glt
  have n0 := cell_of (heap_new w (.cells #[.int .i64 slot, .int .u32 gen] 31)) 0
  have n1 := cell_of (heap_new w (.cells #[.int .i64 slot, .int .u32 gen] 31)) 1
  have hmf : ∀ (fn : Fn) (first cap : Array Value) (w : World), (Instr.makeFunc fn first cap).run Try.prog w = .ok (.func fn first cap) w := fun _ _ _ _ => rfl
  have hA2 := hA.alloc (.cells #[(.int .i64 x)] 3 (0, 0))
  go_enter Try.func16, Try.ntmps16
  go_wp2_with fail
  refine (turn_dead slot gen _ _ hA2 hd).mono ?_
  rintro e w1 ⟨rfl, hw1⟩
  go_wp2
  go_ret
  exact ⟨rfl, (((Below.refl _ _).alloc (Nat.le_refl _) _).alloc (by simp) _).trans (hw1.mono (by simp; omega))⟩

theorem set_live {b g cp i : Nat} {l : List (Cel Int)} {c : Cel Int} (slot gen : Int) (x : Int) (w : World) (h : SlabC (fun x : Int => (.int .i64 x)) 69 66 w b g cp l) (hL : Live l slot gen i c) :
    Calls Try.prog 16 #[.pointer (some ⟨b, 0, none⟩), .agg #[.int .i64 slot, .int .u32 gen], (.int .i64 x)] w fun e w' => e = .returned (.int .i64 0) ∧ SlabC (fun x : Int => (.int .i64 x)) 69 66 w' b g cp (l.set i ⟨c.is, x, c.gen⟩) ∧ Mod (· = g) w w' := by
  have hA := h.alloc (.cells #[.int .i64 slot, .int .u32 gen] 31)
  have hbl := h.blt
  have hgl := h.glt
  have n0 := cell_of (heap_new w (.cells #[.int .i64 slot, .int .u32 gen] 31)) 0
  have n1 := cell_of (heap_new w (.cells #[.int .i64 slot, .int .u32 gen] 31)) 1
  have hmf : ∀ (fn : Fn) (first cap : Array Value) (w : World), (Instr.makeFunc fn first cap).run Try.prog w = .ok (.func fn first cap) w := fun _ _ _ _ => rfl
  have hA2 := hA.alloc (.cells #[(.int .i64 x)] 3 (0, 0))
  have hx := heap_new (w.alloc (.cells #[.int .i64 slot, .int .u32 gen] 31)) (.cells #[(.int .i64 x)] 3 (0, 0))
  go_enter Try.func16, Try.ntmps16
  go_wp2_with fail
  refine (turn_set slot gen x _ hA2 hL (by first | exact hx | simpa using hx)).mono ?_
  rintro e w1 ⟨rfl, hC, hM⟩
  go_wp2
  go_ret
  have hM1 := (((Mod.refl (· = g) w).alloc (.cells #[.int .i64 slot, .int .u32 gen] 31)).alloc (.cells #[(.int .i64 x)] 3 (0, 0))).trans hM (fun _ _ h => h)
  exact ⟨rfl, h.turn hC (by simp) hM1, hM1⟩

end Go.Proofs.Ytmgiaedfonaefaa.C
