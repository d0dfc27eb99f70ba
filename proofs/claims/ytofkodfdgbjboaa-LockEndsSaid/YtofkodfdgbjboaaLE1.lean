/- Locks that do not exist. -/
import Derived.Test.YtofkodfdgbjboaaLD5
namespace Go.Proofs.Ytofkodfdgbjboaa
open Go.ChangeShapes Go.WideShapes Go.ChangeAt Go.RowKit Go.Burg
open Go.Burg.Lk

/-- v is no locks, in w and in all that grows out of it. -/
def NoLk (v : Value) (w : World) : Prop := ∀ w', Below w.heap.size w w' → Calls Try.prog 26 #[v] w' fun e w'' => e = .returned (.bool false) ∧ w' = w''
theorem NoLk.nil (w : World) : NoLk (.pointer none) w := fun w' _ => there_nil w'
theorem NoLk.empty {w : World} {q : Nat} {tk : Int} (h : w.heap[q]? = some (LBlk none tk)) : NoLk (.pointer (some ⟨q, 0, none⟩)) w := fun w' hB => there_empty q tk w' (blk_below h hB (lt_of_block h))
theorem NoLk.keep {v : Value} {w w1 : World} (h : NoLk v w) (hB : Below w.heap.size w w1) : NoLk v w1 := fun w' hB' => h w' (below_chain hB hB' hB.size)

section
variable {v : Value} {w : World} (h : NoLk v w)
include h
theorem no_add (r : RefK) : Calls Try.prog 10 #[v, .agg #[.int .i64 r.1.1, .int .u32 r.1.2]] w fun e w' => e = .returned (.int .i64 1) ∧ Below w.heap.size w w' := by
  have HT := hid (h (w.alloc (.cells #[.int .i64 r.1.1, .int .u32 r.1.2] 30)) ((Below.refl _ _).alloc (Nat.le_refl _) _))
  clear h
  go_enter Try.func10, Try.ntmps10
  go_wp2_with (go_at_call 26; refine HT.out.mono ?_; rintro e w' ⟨rfl, rfl⟩)
  go_ret
  exact ⟨rfl, (Below.refl _ _).alloc (Nat.le_refl _) _⟩
theorem no_gone (r : RefK) : Calls Try.prog 23 #[v, .agg #[.int .i64 r.1.1, .int .u32 r.1.2]] w fun e w' => e = .returned (.int .i64 1) ∧ Below w.heap.size w w' := by
  have HT := hid (h (w.alloc (.cells #[.int .i64 r.1.1, .int .u32 r.1.2] 30)) ((Below.refl _ _).alloc (Nat.le_refl _) _))
  clear h
  go_enter Try.func23, Try.ntmps23
  go_wp2_with (go_at_call 26; refine HT.out.mono ?_; rintro e w' ⟨rfl, rfl⟩)
  go_ret
  exact ⟨rfl, (Below.refl _ _).alloc (Nat.le_refl _) _⟩
theorem no_begin (r : RefK) : Calls Try.prog 11 #[v, .agg #[.int .i64 r.1.1, .int .u32 r.1.2]] w fun e w' => e = .returned (.tuple #[.int .u64 0, .int .i64 2]) ∧ Below w.heap.size w w' := by
  have HT := hid (h (w.alloc (.cells #[.int .i64 r.1.1, .int .u32 r.1.2] 30)) ((Below.refl _ _).alloc (Nat.le_refl _) _))
  clear h
  go_enter Try.func11, Try.ntmps11
  go_wp2_with (go_at_call 26; refine HT.out.mono ?_; rintro e w' ⟨rfl, rfl⟩)
  go_ret2
  exact ⟨rfl, (Below.refl _ _).alloc (Nat.le_refl _) _⟩
theorem no_check (r : RefK) (x : Wd) : Calls Try.prog 18 #[v, .agg #[.int .i64 r.1.1, .int .u32 r.1.2], .int .u64 x.1] w fun e w' => e = .returned (.bool false) ∧ Below w.heap.size w w' := by
  have HH := hid h
  clear h
  have HN := hid (heap_new w (.cells #[.int .i64 r.1.1, .int .u32 r.1.2] 30))
  go_enter Try.func18, Try.ntmps18
  go_wp2
  refine wp_region_seq 11 (fun w1 => Below ((w.alloc (.cells #[.int .i64 r.1.1, .int .u32 r.1.2] 30))).heap.size ((w.alloc (.cells #[.int .i64 r.1.1, .int .u32 r.1.2] 30))) w1) (by kernel_rfl) (by kernel_rfl) (by kernel_rfl) ⟨rfl, rfl, rfl, Nat.le_refl _, fun _ _ => rfl⟩ ?_
  dsimp only [List.take]
  iterate 11
    refine Seq.cons (a' := ?_) ?_ ?_ ?_
    rotate_left
    ·
      intro w1 hw1
      have k0 := blk_below HN.out hw1 (by simp)
      have n0 := cell_of k0 0
      have n1 := cell_of k0 1
      have hB := below_chain ((Below.refl w.heap.size w).alloc (Nat.le_refl _) (.cells #[.int .i64 r.1.1, .int .u32 r.1.2] 30)) hw1 (by simp)
      clear k0
      go_wp2_with (go_at_call 26; refine (HH.out _ hB).mono ?_; rintro e w' ⟨rfl, rfl⟩)
      refine ⟨?_, by first | assumption | (simpa using below_chain hw1 hb hw1.size)⟩
      exact rfl
    · kernel_rfl
  refine SeqI.nil ?_
  intro _ w1 _ hw1
  dsimp only [List.drop]
  go_wp2
  go_ret
  exact ⟨rfl, below_chain ((Below.refl _ _).alloc (Nat.le_refl _) _) hw1 (by simp)⟩
theorem no_lock (r : RefK) (x : Wd) : Calls Try.prog 13 #[v, .agg #[.int .i64 r.1.1, .int .u32 r.1.2], .int .u64 x.1] w fun e w' => e = .returned (.bool false) ∧ Below w.heap.size w w' := by
  have HH := hid h
  clear h
  have HN := hid (heap_new w (.cells #[.int .i64 r.1.1, .int .u32 r.1.2] 30))
  go_enter Try.func13, Try.ntmps13
  go_wp2
  refine wp_region_seq 13 (fun w1 => Below ((w.alloc (.cells #[.int .i64 r.1.1, .int .u32 r.1.2] 30))).heap.size ((w.alloc (.cells #[.int .i64 r.1.1, .int .u32 r.1.2] 30))) w1) (by kernel_rfl) (by kernel_rfl) (by kernel_rfl) ⟨rfl, rfl, rfl, Nat.le_refl _, fun _ _ => rfl⟩ ?_
  dsimp only [List.take]
  iterate 13
    refine Seq.cons (a' := ?_) ?_ ?_ ?_
    rotate_left
    ·
      intro w1 hw1
      have k0 := blk_below HN.out hw1 (by simp)
      have n0 := cell_of k0 0
      have n1 := cell_of k0 1
      have hB := below_chain ((Below.refl w.heap.size w).alloc (Nat.le_refl _) (.cells #[.int .i64 r.1.1, .int .u32 r.1.2] 30)) hw1 (by simp)
      clear k0
      go_wp2_with (go_at_call 26; refine (HH.out _ hB).mono ?_; rintro e w' ⟨rfl, rfl⟩)
      refine ⟨?_, by first | assumption | (simpa using below_chain hw1 hb hw1.size)⟩
      exact rfl
    · kernel_rfl
  refine SeqI.nil ?_
  intro _ w1 _ hw1
  dsimp only [List.drop]
  go_wp2
  go_ret
  exact ⟨rfl, below_chain ((Below.refl _ _).alloc (Nat.le_refl _) _) hw1 (by simp)⟩
omit h in
theorem no_done (h : NoLk v w) (r : RefK) (f : Value) : Calls Try.prog 32 #[v, .agg #[.int .i64 r.1.1, .int .u32 r.1.2], f] w fun e w' => e = .returned (.int .i64 1) ∧ Below w.heap.size w w' := by
  have HT := hid (h (w.alloc (.cells #[.int .i64 r.1.1, .int .u32 r.1.2] 30)) ((Below.refl _ _).alloc (Nat.le_refl _) _))
  clear h
  go_enter Try.func32, Try.ntmps32
  go_wp2_with (go_at_call 26; refine HT.out.mono ?_; rintro e w' ⟨rfl, rfl⟩)
  go_ret
  exact ⟨rfl, (Below.refl _ _).alloc (Nat.le_refl _) _⟩
theorem no_drop (r : RefK) : Calls Try.prog 14 #[v, .agg #[.int .i64 r.1.1, .int .u32 r.1.2]] w fun e w' => e = .returned (.int .i64 1) ∧ Below w.heap.size w w' := by
  have HD := hid (no_done (h.keep (w1 := w.alloc (.cells #[.int .i64 r.1.1, .int .u32 r.1.2] 30)) ((Below.refl _ _).alloc (Nat.le_refl _) _)) r)
  clear h
  go_enter Try.func14, Try.ntmps14
  go_wp2_with (go_at_call 32; refine (HD.out _).mono ?_; rintro e w1 ⟨rfl, hb⟩)
  go_ret
  exact ⟨rfl, below_chain ((Below.refl _ _).alloc (Nat.le_refl _) _) hb (by simp)⟩
theorem no_done' (r : RefK) : Calls Try.prog 15 #[v, .agg #[.int .i64 r.1.1, .int .u32 r.1.2]] w fun e w' => e = .returned (.int .i64 1) ∧ Below w.heap.size w w' := by
  have HD := hid (no_done (h.keep (w1 := w.alloc (.cells #[.int .i64 r.1.1, .int .u32 r.1.2] 30)) ((Below.refl _ _).alloc (Nat.le_refl _) _)) r)
  clear h
  go_enter Try.func15, Try.ntmps15
  go_wp2_with (go_at_call 32; refine (HD.out _).mono ?_; rintro e w1 ⟨rfl, hb⟩)
  go_ret
  exact ⟨rfl, below_chain ((Below.refl _ _).alloc (Nat.le_refl _) _) hb (by simp)⟩
theorem no_kill (r : RefK) : Calls Try.prog 16 #[v, .agg #[.int .i64 r.1.1, .int .u32 r.1.2]] w fun e w' => e = .returned (.int .i64 1) ∧ Below w.heap.size w w' := by
  have HD := hid (no_done (h.keep (w1 := w.alloc (.cells #[.int .i64 r.1.1, .int .u32 r.1.2] 30)) ((Below.refl _ _).alloc (Nat.le_refl _) _)) r)
  clear h
  go_enter Try.func16, Try.ntmps16
  go_wp2_with (go_at_call 32; refine (HD.out _).mono ?_; rintro e w1 ⟨rfl, hb⟩)
  go_ret
  exact ⟨rfl, below_chain ((Below.refl _ _).alloc (Nat.le_refl _) _) hb (by simp)⟩
theorem no_held : Calls Try.prog 17 #[v] w fun e w' => e = .returned (.int .i64 0) ∧ Below w.heap.size w w' := by
  have HT := hid (h w (Below.refl _ _))
  clear h
  go_enter Try.func17, Try.ntmps17
  go_wp2_with (go_at_call 26; refine HT.out.mono ?_; rintro e w' ⟨rfl, rfl⟩)
  go_ret
  exact ⟨rfl, Below.refl _ _⟩
theorem no_taken : Calls Try.prog 19 #[v] w fun e w' => e = .returned (.int .i64 0) ∧ Below w.heap.size w w' := by
  have HT := hid (h w (Below.refl _ _))
  clear h
  go_enter Try.func19, Try.ntmps19
  go_wp2_with (go_at_call 26; refine HT.out.mono ?_; rintro e w' ⟨rfl, rfl⟩)
  go_ret
  exact ⟨rfl, Below.refl _ _⟩
theorem no_len : Calls Try.prog 24 #[v] w fun e w' => e = .returned (.int .i64 0) ∧ Below w.heap.size w w' := by
  have HT := hid (h w (Below.refl _ _))
  clear h
  go_enter Try.func24, Try.ntmps24
  go_wp2_with (go_at_call 26; refine HT.out.mono ?_; rintro e w' ⟨rfl, rfl⟩)
  go_ret
  exact ⟨rfl, Below.refl _ _⟩
theorem no_copy : Calls Try.prog 25 #[v] w fun e w' => e = .returned (.pointer none) ∧ Below w.heap.size w w' := by
  have HT := hid (h w (Below.refl _ _))
  clear h
  go_enter Try.func25, Try.ntmps25
  go_wp2_with (go_at_call 26; refine HT.out.mono ?_; rintro e w' ⟨rfl, rfl⟩)
  go_ret
  exact ⟨rfl, Below.refl _ _⟩
end
end Go.Proofs.Ytofkodfdgbjboaa
