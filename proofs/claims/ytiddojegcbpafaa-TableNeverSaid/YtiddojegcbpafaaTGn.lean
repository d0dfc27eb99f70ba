/- The tree: node. -/
import Derived.Test.YtiddojegcbpafaaTA
import Derived.Test.YtiddojegcbpafaaN4
import Derived.Test.YtiddojegcbpafaaTurn
import Derived.BigQuiet
namespace Go.Proofs.Ytiddojegcbpafaa.T
set_option maxRecDepth 8000
open Go.ChangeShapes Go.WideShapes Go.ChangeAt Go.RowKit Go.Burg
open Go.Burg.Lk
/-- What stands behind the slab's Get. -/
structure NodeMid (W w1 : World) (u : Nat) (o : Obj) : Prop where
  hb : Below W.heap.size W w1
  hu : W.heap.size ≤ u
  ho : w1.heap[u]? = some o
theorem nmidA {W w2 : World} {o : Obj} (h : Below W.heap.size W w2) : NodeMid W (w2.alloc o) w2.heap.size o := ⟨h.alloc h.size _, h.size, heap_new _ _⟩
theorem nmidB {W w2 : World} {kn : Int} {cd vl pt : ByteArray} {ya za : Option Addr} {yn yc zn zc : Nat} {pl di : Bool} (h : Below W.heap.size W w2) (z : w2.heap[W.heap.size]? = some (.cells #[.int .i64 0, .string ⟨#[]⟩, .string ⟨#[]⟩, .string ⟨#[]⟩, .slice none 0 0, .slice none 0 0, .bool false, .bool false] 101 (0, 0))) : NodeMid W ((((((((w2.setCell ⟨W.heap.size, 0, none⟩ (.int .i64 kn)).setCell ⟨W.heap.size, 1, none⟩ (.string cd)).setCell ⟨W.heap.size, 2, none⟩ (.string vl)).setCell ⟨W.heap.size, 3, none⟩ (.string pt)).setCell ⟨W.heap.size, 4, none⟩ (.slice ya yn yc)).setCell ⟨W.heap.size, 5, none⟩ (.slice za zn zc)).setCell ⟨W.heap.size, 6, none⟩ (.bool pl)).setCell ⟨W.heap.size, 7, none⟩ (.bool di)) W.heap.size (.cells #[.int .i64 kn, .string cd, .string vl, .string pt, .slice ya yn yc, .slice za zn zc, .bool pl, .bool di] 101 (0, 0)) := by
  refine ⟨?_, Nat.le_refl _, ?_⟩
  · iterate 8 with_reducible refine Below.setCell ?_ (show W.heap.size ≤ W.heap.size from Nat.le_refl _) _
    exact h
  · exact set_at (cs := #[.int .i64 kn, .string cd, .string vl, .string pt, .slice ya yn yc, .slice za zn zc, .bool pl, .bool false]) (set_at (cs := #[.int .i64 kn, .string cd, .string vl, .string pt, .slice ya yn yc, .slice za zn zc, .bool false, .bool false]) (set_at (cs := #[.int .i64 kn, .string cd, .string vl, .string pt, .slice ya yn yc, .slice none 0 0, .bool false, .bool false]) (set_at (cs := #[.int .i64 kn, .string cd, .string vl, .string pt, .slice none 0 0, .slice none 0 0, .bool false, .bool false]) (set_at (cs := #[.int .i64 kn, .string cd, .string vl, .string ⟨#[]⟩, .slice none 0 0, .slice none 0 0, .bool false, .bool false]) (set_at (cs := #[.int .i64 kn, .string cd, .string ⟨#[]⟩, .string ⟨#[]⟩, .slice none 0 0, .slice none 0 0, .bool false, .bool false]) (set_at (cs := #[.int .i64 kn, .string ⟨#[]⟩, .string ⟨#[]⟩, .string ⟨#[]⟩, .slice none 0 0, .slice none 0 0, .bool false, .bool false]) (set_at z rfl) rfl) rfl) rfl) rfl) rfl) rfl) rfl
set_option maxHeartbeats 4000000 in
theorem node_at {t sb sg kb km i : Nat} {l : List (Cel Nd)} {L : List (RefK × Wd)} {c : Cel Nd} (slot gen : Int) (w : World) (h : TreeAt w t sb sg kb km l L) (hL : S.Live l slot gen i c) :
    Calls Try.prog 47 #[.pointer (some ⟨t, 0, none⟩), .agg #[.int .i64 slot, .int .u32 gen]] w fun e w' => e = .returned (.agg #[.int .i64 c.x.kind, .string c.x.code, .string c.x.value, .string c.x.path, .slice c.x.bytes.a c.x.bytes.n c.x.bytes.c, .slice c.x.kids.a c.x.kids.n c.x.kids.c]) ∧ Below w.heap.size w w' := by
  have hN := blk_alloc (o' := (.cells #[.int .i64 0, .string ⟨#[]⟩, .string ⟨#[]⟩, .string ⟨#[]⟩, .slice none 0 0, .slice none 0 0] 99 (0, 0))) (heap_new w (.cells #[.int .i64 slot, .int .u32 gen] 72 (0, 0)))
  have hZ := heap_new (w.alloc (.cells #[.int .i64 slot, .int .u32 gen] 72 (0, 0))) (.cells #[.int .i64 0, .string ⟨#[]⟩, .string ⟨#[]⟩, .string ⟨#[]⟩, .slice none 0 0, .slice none 0 0] 99 (0, 0))
  have hs1 : (w.alloc (.cells #[.int .i64 slot, .int .u32 gen] 72 (0, 0))).heap.size = w.heap.size + 1 := by simp
  rw [hs1] at hZ
  have hA := (h.alloc (.cells #[.int .i64 slot, .int .u32 gen] 72 (0, 0))).alloc (.cells #[.int .i64 0, .string ⟨#[]⟩, .string ⟨#[]⟩, .string ⟨#[]⟩, .slice none 0 0, .slice none 0 0] 99 (0, 0))
  have hB : Below w.heap.size w ((w.alloc (.cells #[.int .i64 slot, .int .u32 gen] 72 (0, 0))).alloc (.cells #[.int .i64 0, .string ⟨#[]⟩, .string ⟨#[]⟩, .string ⟨#[]⟩, .slice none 0 0, .slice none 0 0] 99 (0, 0))) := ((Below.refl _ _).alloc (Nat.le_refl _) _).alloc (by simp) _
  obtain ⟨is, ⟨kn, cd, vl, pt, ⟨ya, yn, yc⟩, ⟨za, zn, zc⟩, pl, di⟩, gn⟩ := c
  clear hs1
  generalize hW : (w.alloc (.cells #[.int .i64 slot, .int .u32 gen] 72 (0, 0))).alloc (.cells #[.int .i64 0, .string ⟨#[]⟩, .string ⟨#[]⟩, .string ⟨#[]⟩, .slice none 0 0, .slice none 0 0] 99 (0, 0)) = W at *
  have HW := hid hW
  have HA := hid hA
  have HN := hid hN
  have HZ := hid hZ
  have HB := hid hB
  have HT : Hid (∀ w1, Below W.heap.size W w1 → Calls Try.prog 45 #[.pointer (some ⟨sb, 0, none⟩), .agg #[.int .i64 slot, .int .u32 gen]] w1 fun e w' => e = .returned (.tuple #[.agg #[.int .i64 kn, .string cd, .string vl, .string pt, .slice ya yn yc, .slice za zn zc, .bool pl, .bool di], .bool true]) ∧ Below w1.heap.size w1 w') := hid (fun (w1 : World) (hw1 : Below W.heap.size W w1) => S.get_live slot gen w1 (HA.out.keep hw1).hs hL)
  have c0 := cell_of HA.out.ht 0
  have n0 := cell_of HN.out 0
  have n1 := cell_of HN.out 1
  have l0 := lt_of_block HN.out
  have l1 := lt_of_block HA.out.ht
  have l2 := lt_of_block HZ.out
  clear hW hA hN hB hZ h hL
  go_enter Try.func47, Try.ntmps47
  go_wp2_with fail
  rw [HW.out]
  go_region_with (go_at_call 45; refine (HT.out _ (by (repeat (first | exact Below.refl _ _ | assumption | with_reducible refine Below.drew ?_ | with_reducible refine below_drewN ?_ | with_reducible refine Below.setCell ?_ (by first | (simp; done) | (simp; omega)) _ | with_reducible refine Below.alloc ?_ (by first | exact Nat.le_refl _ | (simp; done) | (simp; omega)) _)))).mono ?_; rintro e w2 ⟨rfl, hw2⟩; (try (have z := (hw2.block W.heap.size (by simp)).trans (heap_new W (.cells #[.int .i64 0, .string ⟨#[]⟩, .string ⟨#[]⟩, .string ⟨#[]⟩, .slice none 0 0, .slice none 0 0, .bool false, .bool false] 101 (0, 0))); have z0 := cell_of z 0; have z1 := cell_of z 1; have z2 := cell_of z 2; have z3 := cell_of z 3; have z4 := cell_of z 4; have z5 := cell_of z 5; have z6 := cell_of z 6; have z7 := cell_of z 7; have zf := free_of z)); have HW2 : Hid (Below W.heap.size W w2) := hid (below_chain (by (repeat (first | exact Below.refl _ _ | assumption | with_reducible refine Below.drew ?_ | with_reducible refine below_drewN ?_ | with_reducible refine Below.setCell ?_ (by first | (simp; done) | (simp; omega)) _ | with_reducible refine Below.alloc ?_ (by first | exact Nat.le_refl _ | (simp; done) | (simp; omega)) _))) hw2 (by first | exact Nat.le_refl _ | (simp; done) | (simp; omega))); clear hw2)
  all_goals first | (have hmid := nmidB (kn := kn) (cd := cd) (vl := vl) (pt := pt) (ya := ya) (za := za) (yn := yn) (yc := yc) (zn := zn) (zc := zc) (pl := pl) (di := di) HW2.out z; generalize hE : ((((((((w2.setCell ⟨W.heap.size, 0, none⟩ (.int .i64 kn)).setCell ⟨W.heap.size, 1, none⟩ (.string cd)).setCell ⟨W.heap.size, 2, none⟩ (.string vl)).setCell ⟨W.heap.size, 3, none⟩ (.string pt)).setCell ⟨W.heap.size, 4, none⟩ (.slice ya yn yc)).setCell ⟨W.heap.size, 5, none⟩ (.slice za zn zc)).setCell ⟨W.heap.size, 6, none⟩ (.bool pl)).setCell ⟨W.heap.size, 7, none⟩ (.bool di)) = w3 at hmid ⊢; generalize hEu : W.heap.size = u at hmid ⊢) | (have hmid := nmidA (o := (.cells #[.int .i64 kn, .string cd, .string vl, .string pt, .slice ya yn yc, .slice za zn zc, .bool pl, .bool di] 101 (0, 0))) HW2.out; generalize hE : w2.alloc (.cells #[.int .i64 kn, .string cd, .string vl, .string pt, .slice ya yn yc, .slice za zn zc, .bool pl, .bool di] 101 (0, 0)) = w3 at hmid ⊢; generalize hEu : w2.heap.size = u at hmid ⊢)
  all_goals
    first | subst hEu | skip
    try clear z z0 z1 z2 z3 z4 z5 z6 z7 zf
    clear hE HT c0 n0 n1 HW2
    obtain ⟨hb3, hu, ho⟩ := hmid
    have y := blk_below HZ.out hb3 l2
    have o0 := cell_of ho 0
    have o1 := cell_of ho 1
    have o2 := cell_of ho 2
    have o3 := cell_of ho 3
    have o4 := cell_of ho 4
    have o5 := cell_of ho 5
    have y0 := cell_of y 0
    have y1 := cell_of y 1
    have y2 := cell_of y 2
    have y3 := cell_of y 3
    have y4 := cell_of y 4
    have y5 := cell_of y 5
    have yf := free_of y
    have HB3 := hid hb3
    clear y ho hb3
    go_wp2
    refine bodyPost_ret (v := .agg #[_, _, _, _, _, _]) (by simp [results, Try.results47, go_sem, y0, y1, y2, y3, y4, y5]) rfl ⟨rfl, ?_⟩
    iterate 6 with_reducible refine Below.setCell ?_ (Nat.le_succ _) _
    exact HB.out.trans (HB3.out.mono HB.out.size)
end Go.Proofs.Ytiddojegcbpafaa.T
