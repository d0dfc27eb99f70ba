/- The purse's Copy. -/
import Derived.Test.YtkdimkaladbnpaaPurse7
import Derived.Test.YtkdimkaladbnpaaTurn
import Derived.Shelf.SlMaps.Clone
namespace Go.Proofs.Ytkdimkaladbnpaa
open Go.ChangeShapes Go.WideShapes Go.ChangeAt Go.RowKit Go.Burg
open Go.Burg.Purse

theorem clone_any (b : Nat) (es : Array MapEntry) (clock : Nat) (w : World) (hb : w.heap[b]? = some (.map es clock)) :
    Calls Try.prog 41 #[.map (some b)] w fun e w' => e = .returned (.map (some w.heap.size)) ∧ w.alloc (.map es clock) = w' := by
  have hq := fun w => run_eql_map_nil_sl (P := Try.prog) w 52 _ _ (some b) Try.underlying52
  go_enter Try.func41, Try.ntmps41
  go_wp2
  rw [run_callFunc_extern (fn := Try.f51) (by kernel_rfl) (by kernel_rfl) (by kernel_rfl) (by kernel_rfl) (e := Extern.MapsClone.clone) (by kernel_rfl), run_maps_clone_sl w 52 hb]
  simp only [Result.andThen]
  rw [Oper.upon_value]
  go_wp2
  rw [run_typeAssert_map_sl _ 52 20 _ _ _ Try.underlying52]
  simp only [Result.andThen]
  rw [Oper.upon_value]
  go_wp2
  go_ret
  exact ⟨rfl, rfl⟩

set_option maxHeartbeats 1000000 in
theorem copy_at {w : World} {b m : Nat} {s : St} (hP : PurseAt w b m s) :
    Calls Try.prog 21 #[.pointer (some ⟨b, 0, none⟩)] w fun e w' => ∃ b2 m2, e = .returned (.pointer (some ⟨b2, 0, none⟩)) ∧ PurseAt w' b2 m2 s ∧ w.heap.size ≤ b2 ∧ w.heap.size ≤ m2 ∧ b2 ≠ m2 ∧ Below w.heap.size w w' := by
  obtain ⟨es, clock, hm, hrest⟩ := hP.2
  have hbm := hP.lt
  have HP1 := hid hP.1
  have HM := hid hm
  have HR := hid hrest
  have HNo := hid (none_no b m s.xk s.xb s.hk s.hb s.kk s.kb s.last w hP.1)
  clear hm hrest hP
  go_enter Try.func21, Try.ntmps21
  go_wp2_with (go_at_call 39; refine HNo.out.mono ?_; rintro e w' ⟨rfl, rfl⟩)
  refine wp_region_seqI 13 (Turn 8 (fun w1 => Below w.heap.size w w1 ∧ w1.heap.size = w.heap.size) (fun w1 => Below w.heap.size w w1 ∧ w1.heap[w.heap.size]? = some (.map es clock))) (by kernel_rfl) (by kernel_rfl) (by kernel_rfl) (Turn.start ⟨⟨rfl, rfl, rfl, Nat.le_refl _, fun _ _ => rfl⟩, rfl⟩) ?_
  dsimp only [List.take]
  iterate 8
    refine Seq.calm (a' := ?_) (by decide) ?_ ?_ ?_
    rotate_left
    ·
      intro w1 hw1
      have hB : Below w.heap.size w w1 := by rcases hw1 with h | h <;> exact h.1
      have k0 := blk_below HP1.out hB hbm.1
      obtain ⟨c0, c1, c2, c3, c4, c5, c6, c7, cf, cl⟩ := pfacts k0
      clear hw1 k0 hB
      go_wp2_with (fail)
      refine ⟨?_, id, id⟩
      exact rfl
    · kernel_rfl
  refine Seq.turn (a' := ?_) ?_ ?_ ?_
  rotate_left
  ·
    intro w1 hw1
    have hm1 := blk_below HM.out hw1.1 hbm.2
    have HB := hid hw1.1
    have HZ := hid hw1.2
    clear hw1
    go_wp2_with (go_at_call 41; refine (clone_any m es clock w1 hm1).mono ?_; rintro e w2 ⟨rfl, rfl⟩)
    refine ⟨?_, HB.out.alloc HB.out.size _, by rw [← HZ.out]; exact heap_new _ _⟩
    rw [HZ.out]
  · kernel_rfl
  iterate 4
    refine Seq.calm (a' := ?_) (by decide) ?_ ?_ ?_
    rotate_left
    ·
      intro w1 hw1
      have hB : Below w.heap.size w w1 := by rcases hw1 with h | h <;> exact h.1
      have k0 := blk_below HP1.out hB hbm.1
      obtain ⟨c0, c1, c2, c3, c4, c5, c6, c7, cf, cl⟩ := pfacts k0
      clear hw1 k0 hB
      go_wp2_with (fail)
      refine ⟨?_, id, id⟩
      exact rfl
    · kernel_rfl
  refine SeqI.nil ?_
  intro D w1 hD hI
  replace hI := hI.done (hD 8 (by omega))
  clear hD
  dsimp only [List.drop]
  obtain ⟨hB, hm2⟩ := hI
  have hlt := lt_of_block hm2
  have HM2 := hid hm2
  have HB := hid hB
  clear hB hm2
  go_wp2_with fail
  go_ret
  refine ⟨w1.heap.size, w.heap.size, rfl, ⟨?_, es, clock, blk_alloc HM2.out, HR.out⟩, by omega, Nat.le_refl _, by omega, HB.out.alloc HB.out.size _⟩
  exact heap_new _ _
end Go.Proofs.Ytkdimkaladbnpaa
