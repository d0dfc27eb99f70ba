/- The tree: node, planted, free. -/
import Derived.Test.YtiddojegcbpafaaTA
import Derived.Test.YtiddojegcbpafaaN4
import Derived.Test.YtiddojegcbpafaaTurn
import Derived.BigQuiet
namespace Go.Proofs.Ytiddojegcbpafaa.T
set_option maxRecDepth 8000
open Go.ChangeShapes Go.WideShapes Go.ChangeAt Go.RowKit Go.Burg
open Go.Burg.Lk
set_option maxHeartbeats 4000000 in
theorem planted_at {t sb sg kb km i : Nat} {l : List (Cel Nd)} {L : List (RefK × Wd)} {c : Cel Nd} (slot gen : Int) (w : World) (h : TreeAt w t sb sg kb km l L) (hL : S.Live l slot gen i c) :
    Calls Try.prog 36 #[.pointer (some ⟨t, 0, none⟩), .agg #[.int .i64 slot, .int .u32 gen]] w fun e w' => e = .returned (.bool c.x.planted) ∧ Below w.heap.size w w' := by
  have hN := heap_new w (.cells #[.int .i64 slot, .int .u32 gen] 72 (0, 0))
  have hA := h.alloc (.cells #[.int .i64 slot, .int .u32 gen] 72 (0, 0))
  have hB : Below w.heap.size w (w.alloc (.cells #[.int .i64 slot, .int .u32 gen] 72 (0, 0))) := (Below.refl _ _).alloc (Nat.le_refl _) _
  obtain ⟨is, ⟨kn, cd, vl, pt, ⟨ya, yn, yc⟩, ⟨za, zn, zc⟩, pl, di⟩, gn⟩ := c
  generalize hW : w.alloc (.cells #[.int .i64 slot, .int .u32 gen] 72 (0, 0)) = W at *
  have HW := hid hW
  have HA := hid hA
  have HN := hid hN
  have HB := hid hB
  have HT : Hid (∀ w1, Below W.heap.size W w1 → Calls Try.prog 45 #[.pointer (some ⟨sb, 0, none⟩), .agg #[.int .i64 slot, .int .u32 gen]] w1 fun e w' => e = .returned (.tuple #[.agg #[.int .i64 kn, .string cd, .string vl, .string pt, .slice ya yn yc, .slice za zn zc, .bool pl, .bool di], .bool true]) ∧ Below w1.heap.size w1 w') := hid (fun (w1 : World) (hw1 : Below W.heap.size W w1) => S.get_live slot gen w1 (HA.out.keep hw1).hs hL)
  have c0 := cell_of HA.out.ht 0
  have n0 := cell_of HN.out 0
  have n1 := cell_of HN.out 1
  have l0 := lt_of_block HN.out
  have l1 := lt_of_block HA.out.ht
  clear hW hA hN hB h hL
  go_enter Try.func36, Try.ntmps36
  go_wp2_with fail
  rw [HW.out]
  go_region_with (go_at_call 45; refine (HT.out _ (by (repeat (first | exact Below.refl _ _ | assumption | with_reducible refine Below.drew ?_ | with_reducible refine below_drewN ?_ | with_reducible refine Below.setCell ?_ (by first | (simp; done) | (simp; omega)) _ | with_reducible refine Below.alloc ?_ (by first | exact Nat.le_refl _ | (simp; done) | (simp; omega)) _)))).mono ?_; rintro e w2 ⟨rfl, hw2⟩; (try (have z := (hw2.block W.heap.size (by simp)).trans (heap_new W (.cells #[.int .i64 0, .string ⟨#[]⟩, .string ⟨#[]⟩, .string ⟨#[]⟩, .slice none 0 0, .slice none 0 0, .bool false, .bool false] 101 (0, 0))); have z0 := cell_of z 0; have z1 := cell_of z 1; have z2 := cell_of z 2; have z3 := cell_of z 3; have z4 := cell_of z 4; have z5 := cell_of z 5; have z6 := cell_of z 6; have z7 := cell_of z 7; have zf := free_of z)); have HW2 : Hid (Below W.heap.size W w2) := hid (below_chain (by (repeat (first | exact Below.refl _ _ | assumption | with_reducible refine Below.drew ?_ | with_reducible refine below_drewN ?_ | with_reducible refine Below.setCell ?_ (by first | (simp; done) | (simp; omega)) _ | with_reducible refine Below.alloc ?_ (by first | exact Nat.le_refl _ | (simp; done) | (simp; omega)) _))) hw2 (by first | exact Nat.le_refl _ | (simp; done) | (simp; omega))); clear hw2)
  all_goals
    clear HT c0 n0 n1
    go_wp2
    go_ret
    refine ⟨rfl, ?_⟩
    have hb := HB.out.trans (HW2.out.mono HB.out.size)
    have hs := HB.out.size
    first
      | with_reducible exact hb.alloc hb.size _
      | ((repeat with_reducible refine Below.setCell ?_ hs _); exact hb)

end Go.Proofs.Ytiddojegcbpafaa.T
