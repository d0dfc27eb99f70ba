/- The slab of places: Take, New. -/
import Derived.Test.YtgdmfledhhoedaaN1
import Derived.OwnWalk
namespace Go.Proofs.Ytgdmfledhhoedaa.S
set_option maxRecDepth 8000
open Go.ChangeShapes Go.WideShapes Go.ChangeAt Go.RowKit Go.Burg

theorem take_no {b g : Nat} {l : List (Cel Nd)} (k0 : Int) (cd vl pt : ByteArray) (ya za : Option Addr) (yn yc zn zc : Nat) (pl di : Bool) (w : World) (h : SlabN 148 137 w b g l) (hF : First l (-1)) :
    Calls Try.prog 55 #[.pointer (some ⟨b, 0, none⟩), .agg #[.int .i64 k0, .string cd, .string vl, .string pt, .slice ya yn yc, .slice za zn zc, .bool pl, .bool di]] w fun e w' => e = .returned (.tuple #[.agg #[.int .i64 0, .int .u32 0], .int .i64 14]) ∧ Below w.heap.size w w' := by
  have hA := (h.alloc (.cells #[.int .i64 k0, .string cd, .string vl, .string pt, .slice ya yn yc, .slice za zn zc, .bool pl, .bool di] 123)).alloc (.cells #[.int .i64 0, .int .u32 0] 36)
  have hN := heap_new (w.alloc (.cells #[.int .i64 k0, .string cd, .string vl, .string pt, .slice ya yn yc, .slice za zn zc, .bool pl, .bool di] 123)) (.cells #[.int .i64 0, .int .u32 0] 36)
  have hX := blk_alloc (o' := (.cells #[.int .i64 0, .int .u32 0] 36)) (heap_new w (.cells #[.int .i64 k0, .string cd, .string vl, .string pt, .slice ya yn yc, .slice za zn zc, .bool pl, .bool di] 123))
  have hs1 : (w.alloc (.cells #[.int .i64 k0, .string cd, .string vl, .string pt, .slice ya yn yc, .slice za zn zc, .bool pl, .bool di] 123)).heap.size = w.heap.size + 1 := by simp
  rw [hs1] at hN
  clear hs1
  go_enter Try.func55, Try.ntmps55
  go_wp2_with fail
  refine (there_any _ hA).mono ?_
  rintro e w1 ⟨rfl, hw1⟩
  have h1 := hA.keep hw1
  have hN1 := blk_below hN hw1 (by simp)
  have hX1 := blk_below hX hw1 (by simp; omega)
  have HB1 : Hid (Below w.heap.size w w1) := hid ((((Below.refl _ _).alloc (Nat.le_refl _) _).alloc (by simp) _).trans (hw1.mono (by simp; omega)))
  clear hw1 hA hN hX
  obtain ⟨s0, sf⟩ := h1.head
  go_wp2_with fail
  refine (index_any _ _ h1.hc h1.top hF).mono ?_
  rintro e w2 ⟨rfl, hw2⟩
  have h2 := h1.keep hw2
  have hN2 := blk_below hN1 hw2 (lt_of_block hN1)
  have hX2 := blk_below hX1 hw2 (lt_of_block hX1)
  have hl2 := lt_of_block hN2
  have hl3 := lt_of_block hX2
  have HB2 : Hid (Below w.heap.size w w2) := hid (HB1.out.trans (hw2.mono HB1.out.size))
  clear hw2 h1 hN1 hX1 s0 sf HB1
  have n0 := cell_of hN2 0
  have n1 := cell_of hN2 1
  have nf := free_of hN2
  clear hX2
  go_wp2
  refine bodyPost_ret (v := .tuple #[.agg #[_, _], _]) (by simp [results, Try.results55, go_sem, n0, n1]) rfl ⟨rfl, ?_⟩
  exact (HB2.out.setCell (Nat.le_succ _) _).setCell (Nat.le_succ _) _

set_option maxHeartbeats 2000000 in
theorem take_yes {b g k : Nat} {l : List (Cel Nd)} {c : Cel Nd} (k0 : Int) (cd vl pt : ByteArray) (ya za : Option Addr) (yn yc zn zc : Nat) (pl di : Bool) (w : World) (h : SlabN 148 137 w b g l) (hF : First l (k : Int)) (hk : l[k]? = some c) (hr : c.room = true) :
    Calls Try.prog 55 #[.pointer (some ⟨b, 0, none⟩), .agg #[.int .i64 k0, .string cd, .string vl, .string pt, .slice ya yn yc, .slice za zn zc, .bool pl, .bool di]] w fun e w' => e = .returned (.tuple #[.agg #[.int .i64 k, .int .u32 (c.gen + 1)], .int .i64 0]) ∧ SlabN 148 137 w' b g (l.set k ⟨true, (⟨k0, cd, vl, pt, ⟨ya, yn, yc⟩, ⟨za, zn, zc⟩, pl, di⟩ : Nd), c.gen + 1⟩) ∧ Mod (· = g) w w' := by
  have hkl : k < l.length := (List.getElem?_eq_some_iff.1 hk).1
  have hgl := h.glt
  have hbl := h.blt
  have hng := h.ne
  have ht := h.top
  have hgen : c.gen < 4294967295 := by
    simp only [Cel.room, Bool.and_eq_true, decide_eq_true_eq] at hr
    exact hr.2
  have hgen0 : 0 ≤ c.gen := (h.hc.cell hk).2.2.1
  obtain ⟨is, ⟨kn, cd', vl', pt', ⟨ya', yn', yc'⟩, ⟨za', zn', zc'⟩, pl', di'⟩, gen⟩ := c
  simp only at hgen hgen0
  clear hr
  have HH := hid h
  have hA := (h.alloc (.cells #[.int .i64 k0, .string cd, .string vl, .string pt, .slice ya yn yc, .slice za zn zc, .bool pl, .bool di] 123)).alloc (.cells #[.int .i64 0, .int .u32 0] 36)
  have hN := heap_new (w.alloc (.cells #[.int .i64 k0, .string cd, .string vl, .string pt, .slice ya yn yc, .slice za zn zc, .bool pl, .bool di] 123)) (.cells #[.int .i64 0, .int .u32 0] 36)
  have hX := blk_alloc (o' := (.cells #[.int .i64 0, .int .u32 0] 36)) (heap_new w (.cells #[.int .i64 k0, .string cd, .string vl, .string pt, .slice ya yn yc, .slice za zn zc, .bool pl, .bool di] 123))
  have hs1 : (w.alloc (.cells #[.int .i64 k0, .string cd, .string vl, .string pt, .slice ya yn yc, .slice za zn zc, .bool pl, .bool di] 123)).heap.size = w.heap.size + 1 := by simp
  rw [hs1] at hN
  clear hs1
  go_enter Try.func55, Try.ntmps55
  go_wp2_with fail
  refine (there_any _ hA).mono ?_
  rintro e w1 ⟨rfl, hw1⟩
  have h1 := hA.keep hw1
  have hN1 := blk_below hN hw1 (by simp)
  have hX1 := blk_below hX hw1 (by simp; omega)
  have HB1 : Hid (Below w.heap.size w w1) := hid ((((Below.refl _ _).alloc (Nat.le_refl _) _).alloc (by simp) _).trans (hw1.mono (by simp; omega)))
  clear hw1 hA hN hX
  obtain ⟨s0, sf⟩ := h1.head
  go_wp2_with fail
  refine (index_any _ _ h1.hc h1.top hF).mono ?_
  rintro e w2 ⟨rfl, hw2⟩
  have h2 := h1.keep hw2
  have hN2 := blk_below hN1 hw2 (lt_of_block hN1)
  have hX2 := blk_below hX1 hw2 (lt_of_block hX1)
  have hl2 := lt_of_block hN2
  have hl3 := lt_of_block hX2
  have HB2 : Hid (Below w.heap.size w w2) := hid (HB1.out.trans (hw2.mono HB1.out.size))
  clear hw2 h1 hN1 hX1 s0 sf HB1
  go_wp2_with fail
  refine wp_region_seq 19 (fun w1 => Below (w2).heap.size (w2) w1) (by kernel_rfl) (by kernel_rfl) (by kernel_rfl) ⟨rfl, rfl, rfl, Nat.le_refl _, fun _ _ => rfl⟩ ?_
  dsimp only [List.take]
  iterate 19
    refine Seq.cons (a' := ?_) ?_ ?_ ?_
    rotate_left
    ·
      intro w1 hw1
      have h2 := h2.keep hw1
      obtain ⟨s0, sf⟩ := h2.head
      obtain ⟨⟨c0, c1, c2, c3, c4, c5, c6, c7, c8, c9⟩, cf, _, _⟩ := h2.hc.cell hk
      simp only at c9
      have hX3 := blk_below hX2 hw1 hl3
      have x0 := cell_of hX3 0
      have x1 := cell_of hX3 1
      have x2 := cell_of hX3 2
      have x3 := cell_of hX3 3
      have x4 := cell_of hX3 4
      have x5 := cell_of hX3 5
      have x6 := cell_of hX3 6
      have x7 := cell_of hX3 7
      clear c0 c1 c2 c3 c4 c5 c6 c7 c8 hX3
      go_wp2_with (fail)
      refine ⟨?_, by first | assumption | (simpa using below_chain hw1 hb hw1.size)⟩
      exact rfl
    · kernel_rfl
  refine SeqI.nil ?_
  intro _ w1 _ hw1
  dsimp only [List.drop]
  have h3 := h2.keep hw1
  have hN3 := blk_below hN2 hw1 hl2
  have HB3 : Hid (Below w.heap.size w w1) := hid (HB2.out.trans (hw1.mono HB2.out.size))
  clear hw1 h2 hN2 HB2 hX2
  obtain ⟨s0, sf⟩ := h3.head
  obtain ⟨⟨c0, c1, c2, c3, c4, c5, c6, c7, c8, c9⟩, cf, _, _⟩ := h3.hc.cell hk
  simp only at c0 c1 c2 c3 c4 c5 c6 c7 c8 c9
  have n0 := cell_of hN3 0
  have n1 := cell_of hN3 1
  have nf := free_of hN3
  have HP := hid (h3.hc.put hk ⟨true, (⟨k0, cd, vl, pt, ⟨ya, yn, yc⟩, ⟨za, zn, zc⟩, pl, di⟩ : Nd), gen + 1⟩ ⟨by simp only; omega, by simp only; omega⟩)
  go_wp2_with fail
  refine bodyPost_ret (v := .tuple #[.agg #[_, _], _]) (by simp [results, Try.results55, go_sem, n0, n1]) rfl ⟨rfl, ?_⟩
  have e : ∀ (W : World) (j : Nat) (v : Value), (W.setCell ⟨w.heap.size + 1, j, none⟩ v).heap[g]? = W.heap[g]? := fun W j v => Below.heap_setCell _ _ _ _ (by intro e; simp at e; omega)
  have hC := HP.out.same ((e _ 1 (.int .u32 (gen + 1))).trans (e _ 0 (.int .i64 k)))
  have hM : Mod (· = g) w _ := (Mod.setCell (S := (· = g)) (p := ⟨w.heap.size + 1, 1, none⟩) (Mod.setCell (S := (· = g)) (p := ⟨w.heap.size + 1, 0, none⟩) (Mod.setCell (S := (· = g)) (p := ⟨g, k * 10 + 9, none⟩) (Mod.setCell (S := (· = g)) (p := ⟨g, k * 10 + 8, none⟩) (Mod.setCell (S := (· = g)) (p := ⟨g, k * 10 + 7, none⟩) (Mod.setCell (S := (· = g)) (p := ⟨g, k * 10 + 6, none⟩) (Mod.setCell (S := (· = g)) (p := ⟨g, k * 10 + 5, none⟩) (Mod.setCell (S := (· = g)) (p := ⟨g, k * 10 + 4, none⟩) (Mod.setCell (S := (· = g)) (p := ⟨g, k * 10 + 3, none⟩) (Mod.setCell (S := (· = g)) (p := ⟨g, k * 10 + 2, none⟩) (Mod.setCell (S := (· = g)) (p := ⟨g, k * 10 + 1, none⟩) (Mod.setCell (S := (· = g)) (p := ⟨g, k * 10, none⟩) (Mod.ofBelow HB3.out) (.inl rfl) (.bool true)) (.inl rfl) (.int .i64 k0)) (.inl rfl) (.string cd)) (.inl rfl) (.string vl)) (.inl rfl) (.string pt)) (.inl rfl) (.slice ya yn yc)) (.inl rfl) (.slice za zn zc)) (.inl rfl) (.bool pl)) (.inl rfl) (.bool di)) (.inl rfl) (.int .u32 (gen + 1))) (.inr (Nat.le_succ _)) (.int .i64 k)) (.inr (Nat.le_succ _)) (.int .u32 (gen + 1)))
  exact ⟨HH.out.turn hC (by simp) hM, hM⟩
end Go.Proofs.Ytgdmfledhhoedaa.S
