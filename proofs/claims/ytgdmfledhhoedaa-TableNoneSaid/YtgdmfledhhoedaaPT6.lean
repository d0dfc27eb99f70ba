/- The purse's methods close, Refund, Commit. -/
import Derived.Test.YtgdmfledhhoedaaPT5
import Derived.Maps.RangeWalk
namespace Go.Proofs.Ytgdmfledhhoedaa
set_option maxRecDepth 8000
open Go.ChangeShapes Go.WideShapes Go.ChangeAt Go.RowKit Go.Burg

theorem close_none (b m : Nat) (mk mb hk hb kk kb last t : Int) (l : List (Int × Int × Int)) (w : World) (h : w.heap[b]? = some (PBlk mk mb hk hb kk kb last (some m))) (hm : MapOf (Value.int .i64) lim w m l) (hl : l.lookup t = none) :
    Calls Try.prog 89 #[.pointer (some ⟨b, 0, none⟩), .int .i64 t] w fun e w' => e = .returned (.tuple #[.agg #[.int .u64 0, .int .u64 0], .int .i64 5]) ∧ Below w.heap.size w w' := by
  have hA := blk_alloc (o' := (.cells #[.int .u64 0, .int .u64 0] 49)) h
  have HL := hid hl
  clear hl
  obtain ⟨c0, c1, c2, c3, c4, c5, c6, c7, cf, cl⟩ := pfacts h
  go_enter Try.func89, Try.ntmps89
  go_wp2_with (first | (go_at_call 37; refine (none_no b m mk mb hk hb kk kb last _ hA).mono ?_; rintro e w' ⟨rfl, rfl⟩) | (at_lookup; refine wpList_lookup_map rfl _ _ _ _ rfl keyInt Try.underlying91 zeroLim rfl t rfl (hm.alloc _) ?_; rw [HL.out]; simp only [Option.map_none, Option.getD_none, Option.isSome_none, if_true, lim]))
  refine bodyPost_ret (v := .tuple #[.agg #[_, _], _]) (by simp [results, Try.results89, go_sem]) rfl ⟨rfl, ?_⟩
  (repeat (first | exact Below.refl _ _ | assumption | refine Below.drew ?_ | refine Below.setCell ?_ (by simp) _ | refine Below.alloc ?_ (by first | exact Nat.le_refl _ | (simp; done) | (simp; omega)) _))

theorem close_some (b m : Nat) (mk mb hk hb kk kb last t k y : Int) (l : List (Int × Int × Int)) (w : World) (h : w.heap[b]? = some (PBlk mk mb hk hb kk kb last (some m))) (hm : MapOf (Value.int .i64) lim w m l) (hl : l.lookup t = some (k, y)) :
    Calls Try.prog 89 #[.pointer (some ⟨b, 0, none⟩), .int .i64 t] w fun e w' => e = .returned (.tuple #[.agg #[.int .u64 k, .int .u64 y], .int .i64 0]) ∧ w'.heap[b]? = some (PBlk mk mb hk hb (IntKind.u64.wrap (kk - k)) (IntKind.u64.wrap (kb - y)) last (some m)) ∧
      MapOf (Value.int .i64) lim w' m (delKV l t) ∧ Mod (fun i => i = b ∨ i = m) w w' := by
  have hA := blk_alloc (o' := (.cells #[.int .u64 0, .int .u64 0] 49)) h
  have HL := hid hl
  clear hl
  have hmb : m ≠ b := fun e => by obtain ⟨es, c, h1, _⟩ := hm; subst e; rw [h] at h1; cases h1
  have hml := hm.lt
  obtain ⟨c0, c1, c2, c3, c4, c5, c6, c7, cf, cl⟩ := pfacts h
  go_enter Try.func89, Try.ntmps89
  go_wp2_with (first | (go_at_call 37; refine (none_no b m mk mb hk hb kk kb last _ hA).mono ?_; rintro e w' ⟨rfl, rfl⟩) | (at_lookup; refine wpList_lookup_map rfl _ _ _ _ rfl keyInt Try.underlying91 zeroLim rfl t rfl (hm.alloc _) ?_; rw [HL.out]; simp only [Option.map_some, Option.getD_some, Option.isSome_some, if_true, lim]) | (at_delete; refine wpList_delete_map rfl _ _ _ _ rfl keyInt Try.underlying91 rfl t rfl ((hm.alloc _).alloc _) ?_; intro wd hm1 hM1; go_frame))
  clear hm hA
  have hb1 : wd.heap[b]? = some (PBlk mk mb hk hb kk kb last (some m)) := (hM1.block b (by simp; omega) (Ne.symm hmb)).trans (blk_alloc (blk_alloc h))
  have hr1 : wd.heap[w.heap.size]? = some (.cells #[.int .u64 0, .int .u64 0] 49) := (hM1.block _ (by simp; omega) (by omega)).trans (blk_alloc (heap_new _ _))
  have ha1 : wd.heap[w.heap.size + 1]? = some (.cells #[.int .u64 k, .int .u64 y] 49) := (hM1.block _ (by simp) (by omega)).trans (by simpa using heap_new (w.alloc (.cells #[.int .u64 0, .int .u64 0] 49)) (.cells #[.int .u64 k, .int .u64 y] 49))
  have hMd : Mod (fun i => i = b ∨ i = m) w wd := Mod.trans (S := fun i => i = b ∨ i = m) (((Mod.refl _ w).alloc _).alloc _) hM1 (fun i _ h => .inr h)
  have hwl : w.heap.size + 1 < wd.heap.size := lt_of_block ha1
  clear hM1 h c0 c1 c2 c3 c4 c5 c6 c7 cf
  refine wp_region_seq 8 (fun w1 => Below (wd).heap.size (wd) w1) (by kernel_rfl) (by kernel_rfl) (by kernel_rfl) ⟨rfl, rfl, rfl, Nat.le_refl _, fun _ _ => rfl⟩ ?_
  dsimp only [List.take]
  iterate 8
    refine Seq.cons (a' := ?_) ?_ ?_ ?_
    rotate_left
    ·
      intro w1 hw1
      have h' := blk_below hb1 hw1 (by omega)
      have ha' := blk_below ha1 hw1 (by omega)
      have n0 := cell_of ha' 0
      have n1 := cell_of ha' 1
      obtain ⟨c0, c1, c2, c3, c4, c5, c6, c7, cf, cl⟩ := pfacts h'
      clear h' ha'
      go_wp2_with (go_at_call 95; refine (minus_any _ _ _ _ _).mono ?_; rintro e w' ⟨rfl, hb⟩)
      refine ⟨?_, by first | assumption | (simpa using below_chain hw1 hb hw1.size)⟩
      exact rfl
    · kernel_rfl
  refine SeqI.nil ?_
  intro _ w1 _ hw1
  dsimp only [List.drop]
  have h' := blk_below hb1 hw1 (by omega)
  have ha' := blk_below ha1 hw1 (by omega)
  have hr' := blk_below hr1 hw1 (by omega)
  have n0 := cell_of ha' 0
  have n1 := cell_of ha' 1
  have r0 := cell_of hr' 0
  have r1 := cell_of hr' 1
  have rf := free_of hr'
  have e1 : w.heap.size ≠ b := by omega
  have e2 : w.heap.size + 1 ≠ b := by omega
  obtain ⟨c0, c1, c2, c3, c4, c5, c6, c7, cf, cl⟩ := pfacts h'
  have HB := hid h'
  clear h' ha' hr' ha1 hr1 hb1
  go_wp2
  refine bodyPost_ret (v := .tuple #[.agg #[_, _], _]) (by simp [results, Try.results89, go_sem, r0, r1]) rfl ⟨rfl, ?_, ?_, ?_⟩
  · rw [Below.heap_setCell _ _ _ _ (by simpa using e1.symm), Below.heap_setCell _ _ _ _ (by simpa using e1.symm)]
    have := heap_set (i := 5) (v := .int .u64 (IntKind.u64.wrap (kb - y))) (heap_set (i := 4) (v := .int .u64 (IntKind.u64.wrap (kk - k))) HB.out)
    simpa [PBlk] using this
  · have hm2 := hm1.below hw1 hm1.lt
    exact (((hm2.setCell (by simpa using hmb) _).setCell (by simpa using hmb) _).setCell (by simp; omega) _).setCell (by simp; omega) _
  · refine Mod.setCell ?_ (.inr (by simp)) _
    refine Mod.setCell ?_ (.inr (by simp)) _
    refine Mod.setCell ?_ (.inl (.inl rfl)) _
    refine Mod.setCell ?_ (.inl (.inl rfl)) _
    exact hMd.trans (S' := fun _ => False) (Mod.ofBelow hw1) (fun _ _ h => h.elim)

theorem refund_none (b m : Nat) (mk mb hk hb kk kb last t : Int) (l : List (Int × Int × Int)) (w : World) (h : w.heap[b]? = some (PBlk mk mb hk hb kk kb last (some m))) (hm : MapOf (Value.int .i64) lim w m l) (hl : l.lookup t = none) :
    Calls Try.prog 87 #[.pointer (some ⟨b, 0, none⟩), .int .i64 t] w fun e w' => e = .returned (.int .i64 5) ∧ Below w.heap.size w w' := by
  have HC := hid (close_none b m mk mb hk hb kk kb last t l w h hm hl)
  clear h hm hl
  go_enter Try.func87, Try.ntmps87
  go_wp2_with (go_at_call 89; refine HC.out.mono ?_; rintro e w1 ⟨rfl, hb1⟩)
  go_ret
  exact ⟨rfl, hb1.alloc hb1.size _⟩

theorem refund_some (b m : Nat) (mk mb hk hb kk kb last t k y : Int) (l : List (Int × Int × Int)) (w : World) (h : w.heap[b]? = some (PBlk mk mb hk hb kk kb last (some m))) (hm : MapOf (Value.int .i64) lim w m l) (hl : l.lookup t = some (k, y)) :
    Calls Try.prog 87 #[.pointer (some ⟨b, 0, none⟩), .int .i64 t] w fun e w' => e = .returned (.int .i64 0) ∧ w'.heap[b]? = some (PBlk mk mb hk hb (IntKind.u64.wrap (kk - k)) (IntKind.u64.wrap (kb - y)) last (some m)) ∧
      MapOf (Value.int .i64) lim w' m (delKV l t) ∧ Mod (fun i => i = b ∨ i = m) w w' := by
  have HC := hid (close_some b m mk mb hk hb kk kb last t k y l w h hm hl)
  clear h hm hl
  go_enter Try.func87, Try.ntmps87
  go_wp2_with (go_at_call 89; refine HC.out.mono ?_; rintro e w1 ⟨rfl, hP, hm1, hM⟩)
  go_ret
  exact ⟨rfl, blk_alloc hP, hm1.alloc _, hM.alloc _⟩

theorem commit_none (b m : Nat) (mk mb hk hb kk kb last t : Int) (l : List (Int × Int × Int)) (w : World) (h : w.heap[b]? = some (PBlk mk mb hk hb kk kb last (some m))) (hm : MapOf (Value.int .i64) lim w m l) (hl : l.lookup t = none) :
    Calls Try.prog 85 #[.pointer (some ⟨b, 0, none⟩), .int .i64 t] w fun e w' => e = .returned (.int .i64 5) ∧ Below w.heap.size w w' := by
  have HC := hid (close_none b m mk mb hk hb kk kb last t l w h hm hl)
  clear h hm hl
  go_enter Try.func85, Try.ntmps85
  go_wp2_with (go_at_call 89; refine HC.out.mono ?_; rintro e w1 ⟨rfl, hb1⟩)
  go_ret
  exact ⟨rfl, hb1.alloc hb1.size _⟩

theorem commit_some (b m : Nat) (mk mb hk hb kk kb last t k y : Int) (l : List (Int × Int × Int)) (w : World) (h : w.heap[b]? = some (PBlk mk mb hk hb kk kb last (some m))) (hm : MapOf (Value.int .i64) lim w m l) (hl : l.lookup t = some (k, y)) :
    Calls Try.prog 85 #[.pointer (some ⟨b, 0, none⟩), .int .i64 t] w fun e w' => e = .returned (.int .i64 0) ∧ w'.heap[b]? = some (PBlk mk mb (IntKind.u64.wrap (hk + k)) (IntKind.u64.wrap (hb + y)) (IntKind.u64.wrap (kk - k)) (IntKind.u64.wrap (kb - y)) last (some m)) ∧
      MapOf (Value.int .i64) lim w' m (delKV l t) ∧ Mod (fun i => i = b ∨ i = m) w w' := by
  have HC := hid (close_some b m mk mb hk hb kk kb last t k y l w h hm hl)
  have hmb : m ≠ b := fun e => by obtain ⟨es, c, h1, _⟩ := hm; subst e; rw [h] at h1; cases h1
  have hbl := lt_of_block h
  have hml := hm.lt
  clear h hm hl
  go_enter Try.func85, Try.ntmps85
  go_wp2_with (go_at_call 89; refine HC.out.mono ?_; rintro e wc ⟨rfl, hP, hm1, hM⟩; have hl1 := lt_of_block hP; have HP := hid hP; have HM := hid hM; have Hm := hid hm1; clear hP hM hm1)
  have hz := HM.out.size
  have hA := blk_alloc (o' := (.cells #[.int .u64 k, .int .u64 y] 49)) HP.out
  have hN := heap_new wc (.cells #[.int .u64 k, .int .u64 y] 49)
  refine wp_region_seq 8 (fun w1 => Below ((wc.alloc (.cells #[.int .u64 k, .int .u64 y] 49))).heap.size ((wc.alloc (.cells #[.int .u64 k, .int .u64 y] 49))) w1) (by kernel_rfl) (by kernel_rfl) (by kernel_rfl) ⟨rfl, rfl, rfl, Nat.le_refl _, fun _ _ => rfl⟩ ?_
  dsimp only [List.take]
  iterate 8
    refine Seq.cons (a' := ?_) ?_ ?_ ?_
    rotate_left
    ·
      intro w1 hw1
      have h' := blk_below hA hw1 (by simp; omega)
      have ha' := blk_below hN hw1 (by simp)
      have n0 := cell_of ha' 0
      have n1 := cell_of ha' 1
      obtain ⟨c0, c1, c2, c3, c4, c5, c6, c7, cf, cl⟩ := pfacts h'
      clear h' ha'
      go_wp2_with (go_at_call 90; refine (plus_any _ _ _ _ _).mono ?_; rintro e w' ⟨rfl, hb⟩)
      refine ⟨?_, by first | assumption | (simpa using below_chain hw1 hb hw1.size)⟩
      exact rfl
    · kernel_rfl
  refine SeqI.nil ?_
  intro _ w1 _ hw1
  dsimp only [List.drop]
  have h' := blk_below hA hw1 (by simp; omega)
  obtain ⟨c0, c1, c2, c3, c4, c5, c6, c7, cf, cl⟩ := pfacts h'
  have HB := hid h'
  clear h' hA hN
  go_wp2
  go_ret
  refine ⟨rfl, ?_, ?_, ?_⟩
  · have := heap_set (i := 3) (v := .int .u64 (IntKind.u64.wrap (hb + y))) (heap_set (i := 2) (v := .int .u64 (IntKind.u64.wrap (hk + k))) HB.out)
    simpa [PBlk] using this
  · have hm2 := (Hm.out.alloc (.cells #[.int .u64 k, .int .u64 y] 49)).below hw1 (by have := Hm.out.lt; simp; omega)
    exact (hm2.setCell (by simpa using hmb) _).setCell (by simpa using hmb) _
  · refine Mod.setCell ?_ (.inl (.inl rfl)) _
    refine Mod.setCell ?_ (.inl (.inl rfl)) _
    exact (HM.out.alloc _).trans (S' := fun _ => False) (Mod.ofBelow hw1) (fun _ _ h => h.elim)
end Go.Proofs.Ytgdmfledhhoedaa
