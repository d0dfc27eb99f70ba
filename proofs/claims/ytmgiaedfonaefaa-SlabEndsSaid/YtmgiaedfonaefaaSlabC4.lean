/- The slab's methods: Take, Len, Left, New (int). -/
import Derived.Test.YtmgiaedfonaefaaSlabC3
import Derived.OwnWalk
namespace Go.Proofs.Ytmgiaedfonaefaa.C
open Go.Proofs.Ytmgiaedfonaefaa.I (Live room_any len1_any free1_any set1_any room_is len1_is)
open Go.ChangeShapes Go.WideShapes Go.ChangeAt Go.RowKit Go.Burg

theorem left_any {b g cp : Nat} {l : List (Cel Int)} (w : World) (h : SlabC (fun x : Int => (.int .i64 x)) 69 66 w b g cp l) :
    Calls Try.prog 11 #[.pointer (some ⟨b, 0, none⟩)] w fun e w' => e = .returned (.int .i64 (l.countP Cel.room : Nat)) ∧ Below w.heap.size w w' := by
  go_enter Try.func11, Try.ntmps11
  go_wp2_with fail
  refine (there_any _ h).mono ?_
  rintro e w1 ⟨rfl, hw1⟩
  have h1 := h.keep hw1
  go_wp2_with fail
  refine (count_left _ h1).mono ?_
  rintro e w2 ⟨rfl, hw2⟩
  go_wp2
  go_ret
  exact ⟨rfl, hw1.trans (hw2.mono hw1.size)⟩

theorem len_any {b g cp : Nat} {l : List (Cel Int)} (w : World) (h : SlabC (fun x : Int => (.int .i64 x)) 69 66 w b g cp l) :
    Calls Try.prog 14 #[.pointer (some ⟨b, 0, none⟩)] w fun e w' => e = .returned (.int .i64 (l.countP Cel.is : Nat)) ∧ Below w.heap.size w w' := by
  go_enter Try.func14, Try.ntmps14
  go_wp2_with fail
  refine (there_any _ h).mono ?_
  rintro e w1 ⟨rfl, hw1⟩
  have h1 := h.keep hw1
  go_wp2_with fail
  refine (count_len _ h1).mono ?_
  rintro e w2 ⟨rfl, hw2⟩
  go_wp2
  go_ret
  exact ⟨rfl, hw1.trans (hw2.mono hw1.size)⟩


theorem take_no {b g cp : Nat} {l : List (Cel Int)} (x : Int) (w : World) (h : SlabC (fun x : Int => (.int .i64 x)) 69 66 w b g cp l) (hF : First l (-1)) :
    Calls Try.prog 10 #[.pointer (some ⟨b, 0, none⟩), (.int .i64 x)] w fun e w' => e = .returned (.tuple #[.agg #[.int .i64 0, .int .u32 0], .int .i64 14]) ∧ Below w.heap.size w w' := by
  have hA := h.alloc (.cells #[.int .i64 0, .int .u32 0] 31)
  have hN := heap_new w (.cells #[.int .i64 0, .int .u32 0] 31)
  go_enter Try.func10, Try.ntmps10
  go_wp2_with fail
  refine (there_any _ hA).mono ?_
  rintro e w1 ⟨rfl, hw1⟩
  have h1 := hA.keep hw1
  have hN1 := blk_below hN hw1 (by simp)
  have HB1 : Hid (Below w.heap.size w w1) := hid (((Below.refl _ _).alloc (Nat.le_refl _) _).trans (hw1.mono (by simp)))
  clear hw1 hA hN
  obtain ⟨s0, sf⟩ := h1.head
  go_wp2_with fail
  refine (index_any _ _ h1.hc h1.top hF).mono ?_
  rintro e w2 ⟨rfl, hw2⟩
  have h2 := h1.keep hw2
  have hN2 := blk_below hN1 hw2 (lt_of_block hN1)
  have hl2 := lt_of_block hN2
  have HB2 : Hid (Below w.heap.size w w2) := hid (HB1.out.trans (hw2.mono HB1.out.size))
  clear hw2 h1 hN1 s0 sf HB1
  have n0 := cell_of hN2 0
  have n1 := cell_of hN2 1
  have nf := free_of hN2
  go_wp2
  refine bodyPost_ret (v := .tuple #[.agg #[_, _], _]) (by simp [results, Try.results10, go_sem, n0, n1]) rfl ⟨rfl, ?_⟩
  exact (HB2.out.setCell (Nat.le_refl _) _).setCell (Nat.le_refl _) _

set_option maxHeartbeats 2000000 in
theorem take_yes {b g cp k : Nat} {l : List (Cel Int)} {c : Cel Int} (x : Int) (w : World) (h : SlabC (fun x : Int => (.int .i64 x)) 69 66 w b g cp l) (hF : First l (k : Int)) (hk : l[k]? = some c) (hr : c.room = true) :
    Calls Try.prog 10 #[.pointer (some ⟨b, 0, none⟩), (.int .i64 x)] w fun e w' => e = .returned (.tuple #[.agg #[.int .i64 k, .int .u32 (c.gen + 1)], .int .i64 0]) ∧ SlabC (fun x : Int => (.int .i64 x)) 69 66 w' b g cp (l.set k ⟨true, x, c.gen + 1⟩) ∧ Mod (· = g) w w' := by
  have hkl : k < l.length := (List.getElem?_eq_some_iff.1 hk).1
  have hgl := h.glt
  have hbl := h.blt
  have hng := h.ne
  have ht := h.top
  have hgen : c.gen < 4294967295 := by
    simp only [Cel.room, Bool.and_eq_true, decide_eq_true_eq] at hr
    exact hr.2
  have hgen0 : 0 ≤ c.gen := (h.hc.cell hk).2.2.2.2.1
  obtain ⟨is, y, gen⟩ := c
  simp only at hgen hgen0
  clear hr
  have HH := hid h
  have hA := h.alloc (.cells #[.int .i64 0, .int .u32 0] 31)
  have hN := heap_new w (.cells #[.int .i64 0, .int .u32 0] 31)
  go_enter Try.func10, Try.ntmps10
  go_wp2_with fail
  refine (there_any _ hA).mono ?_
  rintro e w1 ⟨rfl, hw1⟩
  have h1 := hA.keep hw1
  have hN1 := blk_below hN hw1 (by simp)
  have HB1 : Hid (Below w.heap.size w w1) := hid (((Below.refl _ _).alloc (Nat.le_refl _) _).trans (hw1.mono (by simp)))
  clear hw1 hA hN
  obtain ⟨s0, sf⟩ := h1.head
  go_wp2_with fail
  refine (index_any _ _ h1.hc h1.top hF).mono ?_
  rintro e w2 ⟨rfl, hw2⟩
  have h2 := h1.keep hw2
  have hN2 := blk_below hN1 hw2 (lt_of_block hN1)
  have hl2 := lt_of_block hN2
  have HB2 : Hid (Below w.heap.size w w2) := hid (HB1.out.trans (hw2.mono HB1.out.size))
  clear hw2 h1 hN1 s0 sf HB1
  go_wp2_with fail
  refine wp_region_seq 19 (fun w1 => Below (w2).heap.size (w2) w1) (by kernel_rfl) (by kernel_rfl) (by kernel_rfl) ⟨rfl, rfl, rfl, Nat.le_refl _, fun _ _ => rfl⟩ ?_
  dsimp only [List.take]
  iterate 19
    refine Seq.cons (a' := ?_) ?_ ?_ ?_
    rotate_left
    ·
      intro w1 hw1
      have h2 := h2.keep hw1
      obtain ⟨s0, sf⟩ := h2.head
      obtain ⟨c0, c1, c2, cf, _, _⟩ := h2.hc.cell hk
      simp only at c2
      clear c0 c1
      go_wp2_with (fail)
      refine ⟨?_, by first | assumption | (simpa using below_chain hw1 hb hw1.size)⟩
      exact rfl
    · kernel_rfl
  refine SeqI.nil ?_
  intro _ w1 _ hw1
  dsimp only [List.drop]
  have h3 := h2.keep hw1
  have hN3 := blk_below hN2 hw1 hl2
  have HB3 : Hid (Below w.heap.size w w1) := hid (HB2.out.trans (hw1.mono HB2.out.size))
  clear hw1 h2 hN2 HB2
  obtain ⟨s0, sf⟩ := h3.head
  obtain ⟨c0, c1, c2, cf, _, _⟩ := h3.hc.cell hk
  simp only at c0 c1 c2
  have n0 := cell_of hN3 0
  have n1 := cell_of hN3 1
  have nf := free_of hN3
  have HP := hid (h3.hc.put3 hk true x (gen + 1) ⟨by omega, by omega⟩)
  go_wp2_with fail
  refine bodyPost_ret (v := .tuple #[.agg #[_, _], _]) (by simp [results, Try.results10, go_sem, n0, n1]) rfl ⟨rfl, ?_⟩
  have e : ∀ (W : World) (j : Nat) (v : Value), (W.setCell ⟨w.heap.size, j, none⟩ v).heap[g]? = W.heap[g]? := fun W j v => Below.heap_setCell _ _ _ _ (by intro e; simp at e; omega)
  have hC := HP.out.same ((e _ 1 (.int .u32 (gen + 1))).trans (e _ 0 (.int .i64 k)))
  have hM : Mod (· = g) w _ := (Mod.setCell (S := (· = g)) (p := ⟨w.heap.size, 1, none⟩) (Mod.setCell (S := (· = g)) (p := ⟨w.heap.size, 0, none⟩) (Mod.setCell (S := (· = g)) (p := ⟨g, k * 3 + 2, none⟩) (Mod.setCell (S := (· = g)) (p := ⟨g, k * 3 + 1, none⟩) (Mod.setCell (S := (· = g)) (p := ⟨g, k * 3, none⟩) (Mod.ofBelow HB3.out) (.inl rfl) (.bool true)) (.inl rfl) ((.int .i64 x))) (.inl rfl) (.int .u32 (gen + 1))) (.inr (Nat.le_refl _)) (.int .i64 k)) (.inr (Nat.le_refl _)) (.int .u32 (gen + 1)))
  exact ⟨HH.out.turn hC (by simp) hM, hM⟩

end Go.Proofs.Ytmgiaedfonaefaa.C
