/- The table: Gate, Issue. -/
import Derived.Test.YtgdmfledhhoedaaT7
namespace Go.Proofs.Ytgdmfledhhoedaa.T
set_option maxRecDepth 8000
open Go.ChangeShapes Go.WideShapes Go.ChangeAt Go.RowKit Go.Burg
open Go.Burg.Purse (St Inv)

theorem Gate_at (x : Nat) (tn gn rt d : Int) (w : World) : Calls Try.prog 8 #[.pointer (some ⟨x, 0, none⟩), .agg #[.int .i64 tn, .int .u32 gn, .int .u8 rt], .int .i64 d] w fun e w' => ∃ b, e = .returned (.iface 73 (.pointer (some ⟨b, 0, none⟩))) ∧ w'.heap[b]? = some (GBlk ⟨x, tn, gn, rt, d, none, 0, 0, 0⟩) ∧ w.heap.size ≤ b ∧ Below w.heap.size w w' := by
  go_enter Try.func8, Try.ntmps8
  go_wp2
  go_ret
  refine ⟨w.heap.size + 1, rfl, ?_, by omega, by (repeat (first | exact Below.refl _ _ | assumption | with_reducible refine Below.drew ?_ | with_reducible refine below_drewN ?_ | with_reducible refine Below.setCell ?_ (by first | (simp; done) | (simp; omega)) _ | with_reducible refine Below.alloc ?_ (by first | exact Nat.le_refl _ | (simp; done) | (simp; omega)) _))⟩
  have hk := heap_new (w.alloc (.cells #[.int .i64 tn, .int .u32 gn, .int .u8 rt] 26 (0, 0))) (GBlk ⟨x, tn, gn, rt, d, none, 0, 0, 0⟩)
  rw [show (w.alloc (.cells #[.int .i64 tn, .int .u32 gn, .int .u8 rt] 26 (0, 0))).heap.size = w.heap.size + 1 by simp] at hk
  exact hk

theorem Issue_at {x t n p : Nat} {l : Nat → Ten} (r : Int) (w : World) (h : TabAt 42 w x t l) (h1 : 1 ≤ n) (h2 : n ≤ 16) (hp : (l n).purse = some p) (hr1 : 1 ≤ r) (hr2 : r ≤ 7) :
    Calls Try.prog 5 #[.pointer (some ⟨x, 0, none⟩), .int .i64 n, .int .u8 r] w fun e w' => e = .returned (.tuple #[.agg #[.int .i64 n, .int .u32 (l n).gen, .int .u8 r], .int .i64 0]) ∧ Below w.heap.size w w' := by
  have k1 := heap_new w (.cells #[.int .i64 n] 3 (0, 0))
  have k2 := heap_new (w.alloc (.cells #[.int .i64 n] 3 (0, 0))) (.cells #[.int .u8 r] 24 (0, 0))
  have k3 := heap_new ((w.alloc (.cells #[.int .i64 n] 3 (0, 0))).alloc (.cells #[.int .u8 r] 24 (0, 0))) (.cells #[.int .i64 0, .int .u32 0, .int .u8 0] 26 (0, 0))
  rw [show (w.alloc (.cells #[.int .i64 n] 3 (0, 0))).heap.size = w.heap.size + 1 by simp] at k2
  rw [show ((w.alloc (.cells #[.int .i64 n] 3 (0, 0))).alloc (.cells #[.int .u8 r] 24 (0, 0))).heap.size = w.heap.size + 1 + 1 by simp] at k3
  have j1 := blk_alloc (o' := (.cells #[.int .i64 0, .int .u32 0, .int .u8 0] 26 (0, 0))) (blk_alloc (o' := (.cells #[.int .u8 r] 24 (0, 0))) k1)
  have j2 := blk_alloc (o' := (.cells #[.int .i64 0, .int .u32 0, .int .u8 0] 26 (0, 0))) k2
  have n0 := cell_of j1 0
  have hA := ((h.alloc (.cells #[.int .i64 n] 3 (0, 0))).alloc (.cells #[.int .u8 r] 24 (0, 0))).alloc (.cells #[.int .i64 0, .int .u32 0, .int .u8 0] 26 (0, 0))
  have HI := hid (of_issue _ hA h1 h2 hp n r j1 j2 k3)
  have hb0 : Hid (Below w.heap.size w (((w.alloc (.cells #[.int .i64 n] 3 (0, 0))).alloc (.cells #[.int .u8 r] 24 (0, 0))).alloc (.cells #[.int .i64 0, .int .u32 0, .int .u8 0] 26 (0, 0)))) := hid ((((Below.refl _ _).alloc (Nat.le_refl _) _).alloc (by simp) _).alloc (by simp; omega) _)
  have HJ2 := hid j2
  have g1 : decide (r < 1) = false := by simp; omega
  have g2 : decide (r > 7) = false := by simp; omega
  clear h hA hp k1 k2 k3 j1 j2
  go_enter Try.func5, Try.ntmps5
  go_wp2_with (go_at_call 17; refine HI.out.mono ?_; rintro e w2 ⟨rfl, hC, hM⟩; have hj := (hM.block (w.heap.size + 1) (lt_of_block HJ2.out) (by omega)).trans HJ2.out; have b0 := cell_of hj 0; have q0 := cell_of hC 0; have q1 := cell_of hC 1; have q2 := cell_of hC 2; have qf := free_of hC; have HM := hid hM; have HC := hid hC; clear hM hj)
  refine bodyPost_ret (v := .tuple #[.agg #[_, _, _], _]) (by simp [results, Try.results5, go_sem, q0, q1, q2]) rfl ⟨rfl, ?_⟩
  have hM := HM.out
  have hB : Below w.heap.size w w2 := hb0.out.trans ⟨hM.os, hM.tape, hM.output, hM.size, fun k hk => hM.block k (by simp; omega) (by omega)⟩
  (repeat (first | exact Below.refl _ _ | assumption | with_reducible refine Below.drew ?_ | with_reducible refine below_drewN ?_ | with_reducible refine Below.setCell ?_ (by first | (simp; done) | (simp; omega)) _ | with_reducible refine Below.alloc ?_ (by first | exact Nat.le_refl _ | (simp; done) | (simp; omega)) _))
end Go.Proofs.Ytgdmfledhhoedaa.T
