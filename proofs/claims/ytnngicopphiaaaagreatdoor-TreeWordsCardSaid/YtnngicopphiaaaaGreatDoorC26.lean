/- Part 26 of 51 of a proof: lemmas on the functions that it reaches. -/
import Derived.Test.YtnngicopphiaaaaGreatDoorC20
import Derived.Test.YtnngicopphiaaaaGreatDoorC25
import Derived.Test.YtnngicopphiaaaaGreatDoorC22
import Derived.OwnWalk
import Derived.Test.YtnngicopphiaaaaGreatDoorC03
import Derived.BigQuiet
import Derived.WalkKit
namespace Go.Proofs.YtnngicopphiaaaaGreatDoor.T
set_option maxRecDepth 8000
open Go.ChangeShapes Go.WideShapes Go.ChangeAt Go.RowKit Go.Burg
set_option maxHeartbeats 1000000 in
theorem rIndex_at {za : Option Addr} {zn zc : Nat} {L : List Kd} {j : Nat} {kk : Kd} (s g : Int) (w : World) (h : w.ownsRow 0 30 2 (.slice za zn zc) L.length (kidsL L)) (hj : L[j]? = some kk) (hs : kk.s = s) (hg : kk.g = g) (hn : ∀ i k, i < j → L[i]? = some k → ¬ (k.s = s ∧ k.g = g)) (hl : L.length ≤ 256) :
    Calls Tryz.prog 51 #[.slice za zn zc, .agg #[.int .i64 s, .int .u32 g]] w fun e w' => e = .returned (.int .i64 j) ∧ Below w.heap.size w w' := by
  have hzn := O.own_len h
  subst hzn
  have hjl : j < L.length := (List.getElem?_eq_some_iff.1 hj).1
  obtain ⟨gz, rfl, lz, cz⟩ := O.own_cells h (by omega)
  have hN := heap_new w (.cells #[.int .i64 s, .int .u32 g] 30 (0, 0))
  have hB : Below w.heap.size w (w.alloc (.cells #[.int .i64 s, .int .u32 g] 30 (0, 0))) := (Below.refl _ _).alloc (Nat.le_refl _) _
  have HC := hid (fun (w1 : World) (hb : Below w.heap.size w w1) (i : Nat) (v : Value) (hv : (kidsL L)[i]? = some v) => (World.cell?_of_block (w := w) (hb.block gz lz)).trans (cz i v hv))
  have HJ := hid hj
  have HS := hid hs
  have HG := hid hg
  have HNO := hid hn
  have HN := hid hN
  have HB := hid hB
  clear h cz hj hs hg hn hN hB
  go_enter Tryz.func51, Tryz.ntmps51
  go_wp2_with fail
  go_loopw [8] (fun iv wr => ∃ k : Nat, k ≤ j ∧ iv = .int .i64 k ∧ Below (w.alloc (.cells #[.int .i64 s, .int .u32 g] 30 (0, 0))).heap.size (w.alloc (.cells #[.int .i64 s, .int .u32 g] 30 (0, 0))) wr) (fun iv _ => L.length - (intOf iv).toNat)
  case atStart => exact ⟨0, Nat.zero_le _, rfl, Below.refl _ _⟩
  case round =>
    obtain ⟨k, hk, rfl, hb⟩ := hrel
    have hkl : k < L.length := by omega
    have hx : L[k]? = some L[k] := List.getElem?_eq_getElem hkl
    generalize L[k] = x at hx
    have hbw := HB.out.trans (hb.mono HB.out.size)
    obtain ⟨z0, z1⟩ := kidsL_get hx
    have c0 := HC.out wr hbw _ _ z0
    have c1 := HC.out wr hbw _ _ z1
    have hn := (hb.block _ (lt_of_block HN.out)).trans HN.out
    have n0 := cell_of hn 0
    have n1 := cell_of hn 1
    have HBR := hid hb
    have HX := hid hx
    have hd : decide (L.length ≤ k) = false := by simp; exact hkl
    clear hb hbw z0 z1 hn hx
    by_cases he : x.s = s ∧ x.g = g
    · have hkj : k = j := by
        rcases Nat.lt_or_ge k j with h | h
        · exact absurd he (HNO.out k x h HX.out)
        · omega
      subst hkj
      obtain ⟨rfl, rfl⟩ := he
      have e1 : (x.s == x.s) = true := by simp
      have e2 : (x.g == x.g) = true := by simp
      go_wp2_with fail
      go_quiet (fail)
      go_wp2_with fail
      go_ret
      exact ⟨rfl, HB.out.trans ((below_drewN HBR.out).mono HB.out.size)⟩
    · have hkj : k + 1 ≤ j := by
        rcases Nat.lt_or_ge k j with h | h
        · omega
        · exfalso
          obtain rfl : k = j := by omega
          have := HX.out.symm.trans HJ.out
          cases this
          exact he ⟨HS.out, HG.out⟩
      rcases Decidable.em (s = x.s) with h1 | h1
      · have h2 : ¬ g = x.g := fun e => he ⟨h1.symm, e.symm⟩
        have e1 : (s == x.s) = true := by simp [h1]
        have e2 : (g == x.g) = false := beq_false_of_ne h2
        clear he h1 h2
        go_wp2_with fail
        go_quiet (fail)
        go_wp2_with fail
        go_roundw
        case rel => exact ⟨k + 1, hkj, by go_num, below_drewN HBR.out⟩
        case measure => simp [intOf]; omega
      · have e1 : (s == x.s) = false := beq_false_of_ne h1
        clear he h1
        go_wp2_with fail
        go_quiet (fail)
        go_wp2_with fail
        go_roundw
        case rel => exact ⟨k + 1, hkj, by go_num, below_drewN HBR.out⟩
        case measure => simp [intOf]; omega
end Go.Proofs.YtnngicopphiaaaaGreatDoor.T

namespace Go.Proofs.YtnngicopphiaaaaGreatDoor.S
set_option maxRecDepth 8000
open Go.ChangeShapes Go.WideShapes Go.ChangeAt Go.RowKit Go.Burg
theorem at_in {b g i : Nat} {l : List (Cel Nd)} {c : Cel Nd} (gen : Int) (w : World) (h : SlabN 124 106 w b g l) (hi : l[i]? = some c) (r : Bool) (hr : (c.is && decide (c.gen = gen)) = r) :
    Calls Tryz.prog 67 #[.pointer (some ⟨b, 0, none⟩), .agg #[.int .i64 i, .int .u32 gen]] w fun e w' => e = .returned (.tuple #[.pointer (some ⟨g, i * 10, none⟩), .bool r]) ∧ Below w.heap.size w w' := by
  have hil : i < l.length := (List.getElem?_eq_some_iff.1 hi).1
  have hN := heap_new w (.cells #[.int .i64 i, .int .u32 gen] 30)
  have hA := h.alloc (.cells #[.int .i64 i, .int .u32 gen] 30)
  have hp := h.pos
  have ht := h.top
  have hd1 : decide (l.length ≤ i) = false := by simp; exact hil
  have hd2 : decide ((i : Int) < 0) = false := by simp
  have hd3 : decide ((l.length : Int) ≤ (i : Int)) = false := by simp; omega
  obtain ⟨is, x, gn⟩ := c
  obtain ⟨s0, sf⟩ := hA.head
  have n0 := cell_of hN 0
  have n1 := cell_of hN 1
  obtain ⟨⟨c0, c1, c2, c3, c4, c5, c6, c7, c8, c9⟩, cf, _, _⟩ := hA.hc.cell hi
  simp only at c0 c9
  clear c1 c2 c3 c4 c5 c6 c7 c8
  have HR := hid hr
  have HB : Hid (Below w.heap.size w (w.alloc (.cells #[.int .i64 i, .int .u32 gen] 30))) := hid ((Below.refl _ _).alloc (Nat.le_refl _) _)
  generalize hW : w.alloc (.cells #[.int .i64 i, .int .u32 gen] 30) = W at *
  have HW := hid hW
  have hne : w.heap.size ≠ b := by have := h.blt; omega
  clear hr hW
  go_enter Tryz.func67, Tryz.ntmps67
  go_wp2_with fail
  rw [HW.out]
  go_quiet (fail)
  go_wp2_with fail
  go_quiet (fail)
  go_wp2_with fail
  cases is
  all_goals
    go_quiet (fail)
    go_wp2
    go_ret2
    refine ⟨?_, below_drewN (below_drewN (below_drewN HB.out))⟩
    have := HR.out
    subst this
    simp
    try rfl
def Live (l : List (Cel Nd)) (slot gen : Int) (i : Nat) (c : Cel Nd) : Prop := slot = i ∧ l[i]? = some c ∧ c.is = true ∧ c.gen = gen
theorem at_live {b g i : Nat} {l : List (Cel Nd)} {c : Cel Nd} (slot gen : Int) (w : World) (h : SlabN 124 106 w b g l) (hL : Live l slot gen i c) :
    Calls Tryz.prog 67 #[.pointer (some ⟨b, 0, none⟩), .agg #[.int .i64 slot, .int .u32 gen]] w fun e w' => e = .returned (.tuple #[.pointer (some ⟨g, i * 10, none⟩), .bool true]) ∧ Below w.heap.size w w' := by
  obtain ⟨rfl, h2, h3, h4⟩ := hL
  exact at_in gen w h h2 true (by simp [h3, h4])
theorem get_live {b g i : Nat} {l : List (Cel Nd)} {c : Cel Nd} (slot gen : Int) (w : World) (h : SlabN 124 106 w b g l) (hL : Live l slot gen i c) :
    Calls Tryz.prog 30 #[.pointer (some ⟨b, 0, none⟩), .agg #[.int .i64 slot, .int .u32 gen]] w fun e w' => e = .returned (.tuple #[c.x.V, .bool true]) ∧ Below w.heap.size w w' := by
  have hN := heap_new w (.cells #[.int .i64 slot, .int .u32 gen] 30)
  have hN' := blk_alloc (o' := (.cells #[.int .i64 0, .string ⟨#[]⟩, .string ⟨#[]⟩, .string ⟨#[]⟩, .slice none 0 0, .slice none 0 0, .bool false, .bool false] 61)) hN
  have hZ := heap_new (w.alloc (.cells #[.int .i64 slot, .int .u32 gen] 30)) (.cells #[.int .i64 0, .string ⟨#[]⟩, .string ⟨#[]⟩, .string ⟨#[]⟩, .slice none 0 0, .slice none 0 0, .bool false, .bool false] 61)
  have hs1 : (w.alloc (.cells #[.int .i64 slot, .int .u32 gen] 30)).heap.size = w.heap.size + 1 := by simp
  rw [hs1] at hZ
  have hA := (h.alloc (.cells #[.int .i64 slot, .int .u32 gen] 30)).alloc (.cells #[.int .i64 0, .string ⟨#[]⟩, .string ⟨#[]⟩, .string ⟨#[]⟩, .slice none 0 0, .slice none 0 0, .bool false, .bool false] 61)
  have hbl := h.blt
  have hgl := h.glt
  clear hN hs1
  go_enter Tryz.func30, Tryz.ntmps30
  go_wp2_with fail
  refine (there_any _ hA).mono ?_
  rintro e w1 ⟨rfl, hw1⟩
  have hS := hA.keep hw1
  have hN2 := blk_below hN' hw1 (by simp; omega)
  have hZ2 := blk_below hZ hw1 (by simp)
  have hl2 := lt_of_block hN2
  have hl3 := lt_of_block hZ2
  have HB : Hid (Below w.heap.size w w1) := hid ((((Below.refl _ _).alloc (Nat.le_refl _) _).alloc (by simp) _).trans (hw1.mono (by simp; omega)))
  have hsz := HB.out.size
  clear hw1 hA hN' hZ
  rename World => wa
  go_wp2_with fail
  have HD := hid (fun (w1 : World) (hw1 : Below wa.heap.size wa w1) => at_live slot gen w1 (hS.keep hw1) hL)
  refine wp_region_seq 10 (fun w1 => Below (wa).heap.size (wa) w1) (by kernel_rfl) (by kernel_rfl) (by kernel_rfl) ⟨rfl, rfl, rfl, Nat.le_refl _, fun _ _ => rfl⟩ ?_
  dsimp only [List.take]
  iterate 10
    refine Seq.cons (a' := ?_) ?_ ?_ ?_
    rotate_left
    ·
      intro w1 hw1
      have hS := hS.keep hw1
      obtain ⟨s0, sf⟩ := hS.head
      have hn := blk_below hN2 hw1 hl2
      have n0 := cell_of hn 0
      have n1 := cell_of hn 1
      go_wp2_with (go_at_call 67; refine (HD.out _ hw1).mono ?_; rintro e w' ⟨rfl, hb⟩)
      refine ⟨?_, by first | assumption | (simpa using below_chain hw1 hb hw1.size)⟩
      exact rfl
    · kernel_rfl
  refine SeqI.nil ?_
  intro _ w1 _ hw1
  dsimp only [List.drop]
  obtain ⟨⟨c0, c1, c2, c3, c4, c5, c6, c7, c8, c9⟩, cf, _, _⟩ := (hS.keep hw1).hc.cell hL.2.1
  have hZ3 := blk_below hZ2 hw1 hl3
  have z0 := cell_of hZ3 0
  have z1 := cell_of hZ3 1
  have z2 := cell_of hZ3 2
  have z3 := cell_of hZ3 3
  have z4 := cell_of hZ3 4
  have z5 := cell_of hZ3 5
  have z6 := cell_of hZ3 6
  have z7 := cell_of hZ3 7
  have zf := free_of hZ3
  have HB3 := hid (HB.out.trans (hw1.mono hsz))
  clear c0 c9 hZ3 hN2 hZ2 HB
  obtain ⟨is, ⟨kn, cd, vl, pt, ⟨ya, yn, yc⟩, ⟨za, zn, zc⟩, pl, di⟩, gn⟩ := c
  simp only at c1 c2 c3 c4 c5 c6 c7 c8
  go_wp2
  refine bodyPost_ret (v := .tuple #[.agg #[_, _, _, _, _, _, _, _], _]) (by simp [results, Tryz.results30, go_sem, z0, z1, z2, z3, z4, z5, z6, z7]) rfl ⟨rfl, ?_⟩
  repeat refine Below.setCell ?_ (Nat.le_succ _) _
  exact HB3.out
end Go.Proofs.YtnngicopphiaaaaGreatDoor.S

namespace Go.Proofs.YtnngicopphiaaaaGreatDoor.T
set_option maxRecDepth 8000
open Go.ChangeShapes Go.WideShapes Go.ChangeAt Go.RowKit Go.Burg
open Go.Burg.Lk
structure NodeMid (W w1 : World) (u : Nat) (o : Obj) : Prop where
  hb : Below W.heap.size W w1
  hu : W.heap.size ≤ u
  ho : w1.heap[u]? = some o
theorem nmidA {W w2 : World} {o : Obj} (h : Below W.heap.size W w2) : NodeMid W (w2.alloc o) w2.heap.size o := ⟨h.alloc h.size _, h.size, heap_new _ _⟩
theorem nmidB {W w2 : World} {kn : Int} {cd vl pt : ByteArray} {ya za : Option Addr} {yn yc zn zc : Nat} {pl di : Bool} (h : Below W.heap.size W w2) (z : w2.heap[W.heap.size]? = some (.cells #[.int .i64 0, .string ⟨#[]⟩, .string ⟨#[]⟩, .string ⟨#[]⟩, .slice none 0 0, .slice none 0 0, .bool false, .bool false] 61 (0, 0))) : NodeMid W ((((((((w2.setCell ⟨W.heap.size, 0, none⟩ (.int .i64 kn)).setCell ⟨W.heap.size, 1, none⟩ (.string cd)).setCell ⟨W.heap.size, 2, none⟩ (.string vl)).setCell ⟨W.heap.size, 3, none⟩ (.string pt)).setCell ⟨W.heap.size, 4, none⟩ (.slice ya yn yc)).setCell ⟨W.heap.size, 5, none⟩ (.slice za zn zc)).setCell ⟨W.heap.size, 6, none⟩ (.bool pl)).setCell ⟨W.heap.size, 7, none⟩ (.bool di)) W.heap.size (.cells #[.int .i64 kn, .string cd, .string vl, .string pt, .slice ya yn yc, .slice za zn zc, .bool pl, .bool di] 61 (0, 0)) := by
  refine ⟨?_, Nat.le_refl _, ?_⟩
  · iterate 8 with_reducible refine Below.setCell ?_ (show W.heap.size ≤ W.heap.size from Nat.le_refl _) _
    exact h
  · exact set_at (cs := #[.int .i64 kn, .string cd, .string vl, .string pt, .slice ya yn yc, .slice za zn zc, .bool pl, .bool false]) (set_at (cs := #[.int .i64 kn, .string cd, .string vl, .string pt, .slice ya yn yc, .slice za zn zc, .bool false, .bool false]) (set_at (cs := #[.int .i64 kn, .string cd, .string vl, .string pt, .slice ya yn yc, .slice none 0 0, .bool false, .bool false]) (set_at (cs := #[.int .i64 kn, .string cd, .string vl, .string pt, .slice none 0 0, .slice none 0 0, .bool false, .bool false]) (set_at (cs := #[.int .i64 kn, .string cd, .string vl, .string ⟨#[]⟩, .slice none 0 0, .slice none 0 0, .bool false, .bool false]) (set_at (cs := #[.int .i64 kn, .string cd, .string ⟨#[]⟩, .string ⟨#[]⟩, .slice none 0 0, .slice none 0 0, .bool false, .bool false]) (set_at (cs := #[.int .i64 kn, .string ⟨#[]⟩, .string ⟨#[]⟩, .string ⟨#[]⟩, .slice none 0 0, .slice none 0 0, .bool false, .bool false]) (set_at z rfl) rfl) rfl) rfl) rfl) rfl) rfl) rfl
set_option maxHeartbeats 4000000 in
theorem node_at {t sb sg kb km i : Nat} {l : List (Cel Nd)} {L : List (RefK × Wd)} {tk : Int} {c : Cel Nd} (slot gen : Int) (w : World) (h : TreeAt w t sb sg kb km l L tk) (hL : S.Live l slot gen i c) :
    Calls Tryz.prog 38 #[.pointer (some ⟨t, 0, none⟩), .agg #[.int .i64 slot, .int .u32 gen]] w fun e w' => e = .returned (.agg #[.int .i64 c.x.kind, .string c.x.code, .string c.x.value, .string c.x.path, .slice c.x.bytes.a c.x.bytes.n c.x.bytes.c, .slice c.x.kids.a c.x.kids.n c.x.kids.c]) ∧ Below w.heap.size w w' := by
  have hN := blk_alloc (o' := (.cells #[.int .i64 0, .string ⟨#[]⟩, .string ⟨#[]⟩, .string ⟨#[]⟩, .slice none 0 0, .slice none 0 0] 53 (0, 0))) (heap_new w (.cells #[.int .i64 slot, .int .u32 gen] 30 (0, 0)))
  have hZ := heap_new (w.alloc (.cells #[.int .i64 slot, .int .u32 gen] 30 (0, 0))) (.cells #[.int .i64 0, .string ⟨#[]⟩, .string ⟨#[]⟩, .string ⟨#[]⟩, .slice none 0 0, .slice none 0 0] 53 (0, 0))
  have hs1 : (w.alloc (.cells #[.int .i64 slot, .int .u32 gen] 30 (0, 0))).heap.size = w.heap.size + 1 := by simp
  rw [hs1] at hZ
  have hA := (h.alloc (.cells #[.int .i64 slot, .int .u32 gen] 30 (0, 0))).alloc (.cells #[.int .i64 0, .string ⟨#[]⟩, .string ⟨#[]⟩, .string ⟨#[]⟩, .slice none 0 0, .slice none 0 0] 53 (0, 0))
  have hB : Below w.heap.size w ((w.alloc (.cells #[.int .i64 slot, .int .u32 gen] 30 (0, 0))).alloc (.cells #[.int .i64 0, .string ⟨#[]⟩, .string ⟨#[]⟩, .string ⟨#[]⟩, .slice none 0 0, .slice none 0 0] 53 (0, 0))) := ((Below.refl _ _).alloc (Nat.le_refl _) _).alloc (by simp) _
  obtain ⟨is, ⟨kn, cd, vl, pt, ⟨ya, yn, yc⟩, ⟨za, zn, zc⟩, pl, di⟩, gn⟩ := c
  clear hs1
  generalize hW : (w.alloc (.cells #[.int .i64 slot, .int .u32 gen] 30 (0, 0))).alloc (.cells #[.int .i64 0, .string ⟨#[]⟩, .string ⟨#[]⟩, .string ⟨#[]⟩, .slice none 0 0, .slice none 0 0] 53 (0, 0)) = W at *
  have HW := hid hW
  have HA := hid hA
  have HN := hid hN
  have HZ := hid hZ
  have HB := hid hB
  have HT : Hid (∀ w1, Below W.heap.size W w1 → Calls Tryz.prog 30 #[.pointer (some ⟨sb, 0, none⟩), .agg #[.int .i64 slot, .int .u32 gen]] w1 fun e w' => e = .returned (.tuple #[.agg #[.int .i64 kn, .string cd, .string vl, .string pt, .slice ya yn yc, .slice za zn zc, .bool pl, .bool di], .bool true]) ∧ Below w1.heap.size w1 w') := hid (fun (w1 : World) (hw1 : Below W.heap.size W w1) => S.get_live slot gen w1 (HA.out.keep hw1).hs hL)
  have c0 := cell_of HA.out.ht 0
  have n0 := cell_of HN.out 0
  have n1 := cell_of HN.out 1
  have l0 := lt_of_block HN.out
  have l1 := lt_of_block HA.out.ht
  have l2 := lt_of_block HZ.out
  clear hW hA hN hB hZ h hL
  go_enter Tryz.func38, Tryz.ntmps38
  go_wp2_with fail
  rw [HW.out]
  go_region_with (go_at_call 30; refine (HT.out _ (by (repeat (first | exact Below.refl _ _ | assumption | with_reducible refine Below.drew ?_ | with_reducible refine below_drewN ?_ | with_reducible refine Below.setCell ?_ (by first | (simp; done) | (simp; omega)) _ | with_reducible refine Below.alloc ?_ (by first | exact Nat.le_refl _ | (simp; done) | (simp; omega)) _)))).mono ?_; rintro e w2 ⟨rfl, hw2⟩; (try (have z := (hw2.block W.heap.size (by simp)).trans (heap_new W (.cells #[.int .i64 0, .string ⟨#[]⟩, .string ⟨#[]⟩, .string ⟨#[]⟩, .slice none 0 0, .slice none 0 0, .bool false, .bool false] 61 (0, 0))); have z0 := cell_of z 0; have z1 := cell_of z 1; have z2 := cell_of z 2; have z3 := cell_of z 3; have z4 := cell_of z 4; have z5 := cell_of z 5; have z6 := cell_of z 6; have z7 := cell_of z 7; have zf := free_of z)); have HW2 : Hid (Below W.heap.size W w2) := hid (below_chain (by (repeat (first | exact Below.refl _ _ | assumption | with_reducible refine Below.drew ?_ | with_reducible refine below_drewN ?_ | with_reducible refine Below.setCell ?_ (by first | (simp; done) | (simp; omega)) _ | with_reducible refine Below.alloc ?_ (by first | exact Nat.le_refl _ | (simp; done) | (simp; omega)) _))) hw2 (by first | exact Nat.le_refl _ | (simp; done) | (simp; omega))); clear hw2)
  all_goals first | (have hmid := nmidB (kn := kn) (cd := cd) (vl := vl) (pt := pt) (ya := ya) (za := za) (yn := yn) (yc := yc) (zn := zn) (zc := zc) (pl := pl) (di := di) HW2.out z; generalize hE : ((((((((w2.setCell ⟨W.heap.size, 0, none⟩ (.int .i64 kn)).setCell ⟨W.heap.size, 1, none⟩ (.string cd)).setCell ⟨W.heap.size, 2, none⟩ (.string vl)).setCell ⟨W.heap.size, 3, none⟩ (.string pt)).setCell ⟨W.heap.size, 4, none⟩ (.slice ya yn yc)).setCell ⟨W.heap.size, 5, none⟩ (.slice za zn zc)).setCell ⟨W.heap.size, 6, none⟩ (.bool pl)).setCell ⟨W.heap.size, 7, none⟩ (.bool di)) = w3 at hmid ⊢; generalize hEu : W.heap.size = u at hmid ⊢) | (have hmid := nmidA (o := (.cells #[.int .i64 kn, .string cd, .string vl, .string pt, .slice ya yn yc, .slice za zn zc, .bool pl, .bool di] 61 (0, 0))) HW2.out; generalize hE : w2.alloc (.cells #[.int .i64 kn, .string cd, .string vl, .string pt, .slice ya yn yc, .slice za zn zc, .bool pl, .bool di] 61 (0, 0)) = w3 at hmid ⊢; generalize hEu : w2.heap.size = u at hmid ⊢)
  all_goals
    first | subst hEu | skip
    try clear z z0 z1 z2 z3 z4 z5 z6 z7 zf
    clear hE HT c0 n0 n1 HW2
    obtain ⟨hb3, hu, ho⟩ := hmid
    have y := blk_below HZ.out hb3 l2
    have o0 := cell_of ho 0
    have o1 := cell_of ho 1
    have o2 := cell_of ho 2
    have o3 := cell_of ho 3
    have o4 := cell_of ho 4
    have o5 := cell_of ho 5
    have y0 := cell_of y 0
    have y1 := cell_of y 1
    have y2 := cell_of y 2
    have y3 := cell_of y 3
    have y4 := cell_of y 4
    have y5 := cell_of y 5
    have yf := free_of y
    have HB3 := hid hb3
    clear y ho hb3
    go_wp2
    refine bodyPost_ret (v := .agg #[_, _, _, _, _, _]) (by simp [results, Tryz.results38, go_sem, y0, y1, y2, y3, y4, y5]) rfl ⟨rfl, ?_⟩
    iterate 6 with_reducible refine Below.setCell ?_ (Nat.le_succ _) _
    exact HB.out.trans (HB3.out.mono HB.out.size)
end Go.Proofs.YtnngicopphiaaaaGreatDoor.T

namespace Go.Proofs.YtnngicopphiaaaaGreatDoor.T
set_option maxRecDepth 8000
open Go.ChangeShapes Go.WideShapes Go.ChangeAt Go.RowKit Go.Burg
open Go.Burg.Lk
end Go.Proofs.YtnngicopphiaaaaGreatDoor.T

namespace Go.Burg
open Go Go.RowKit
section
variable {tc : TypeId} {w : World} {g : Nat} {l : List (Cel Nd)}
theorem CellsN.put8 (h : CellsN tc w g l) {i : Nat} {c : Cel Nd} (hi : l[i]? = some c) (x : Nd) :
    CellsN tc ((((((((w.setCell ⟨g, i * 10 + 1, none⟩ (.int .i64 x.kind)).setCell ⟨g, i * 10 + 2, none⟩ (.string x.code)).setCell ⟨g, i * 10 + 3, none⟩ (.string x.value)).setCell ⟨g, i * 10 + 4, none⟩ (.string x.path)).setCell ⟨g, i * 10 + 5, none⟩ (.slice x.bytes.a x.bytes.n x.bytes.c)).setCell ⟨g, i * 10 + 6, none⟩ (.slice x.kids.a x.kids.n x.kids.c)).setCell ⟨g, i * 10 + 7, none⟩ (.bool x.planted)).setCell ⟨g, i * 10 + 8, none⟩ (.bool x.died)) g (l.set i ⟨c.is, x, c.gen⟩) := by
  obtain ⟨cs, h1, h2⟩ := h.hg
  refine ⟨⟨_, heap_set (heap_set (heap_set (heap_set (heap_set (heap_set (heap_set (heap_set h1))))))), fun j e hj k hk => ?_⟩, fun d hd => ?_⟩
  · have hil : i < l.length := (List.getElem?_eq_some_iff.1 hi).1
    have a9 : cs[i * 10 + 9]? = some (.int .u32 c.gen) := h2 i c hi 9 (by omega)
    have a0 : cs[i * 10 + 0]? = some (.bool c.is) := h2 i c hi 0 (by omega)
    have s3 : i * 10 + 9 < cs.size := (Array.getElem?_eq_some_iff.1 a9).1
    by_cases hij : i = j
    · subst hij
      rw [List.getElem?_set_self hil] at hj
      cases hj
      rcases (by omega : k = 0 ∨ k = 9 ∨ (1 ≤ k ∧ k ≤ 8)) with rfl | rfl | ⟨k1, k8⟩
      · iterate 8 rw [set_get, if_neg (by omega)]
        exact a0
      · iterate 8 rw [set_get, if_neg (by omega)]
        exact a9
      · rcases (by omega : k = 1 ∨ k = 2 ∨ k = 3 ∨ k = 4 ∨ k = 5 ∨ k = 6 ∨ k = 7 ∨ k = 8) with rfl | rfl | rfl | rfl | rfl | rfl | rfl | rfl <;> simp [set_get, NRow] <;> omega
    · rw [List.getElem?_set_ne hij] at hj
      have b1 := h2 j e hj k hk
      rw [← b1]
      iterate 8 rw [set_get, if_neg (by omega)]
  · rcases List.mem_or_eq_of_mem_set hd with hd | rfl
    · exact h.gen d hd
    · exact h.gen c (List.mem_of_getElem? hi)
end
end Go.Burg
namespace Go.Proofs.YtnngicopphiaaaaGreatDoor.S
set_option maxRecDepth 8000
open Go.ChangeShapes Go.WideShapes Go.ChangeAt Go.RowKit Go.Burg
section
variable {kn : Int} {cd vl pt : ByteArray} {ya za : Option Addr} {yn yc zn zc : Nat} {pl di : Bool}
theorem set1_any {g i bx : Nat} {l : List (Cel Nd)} {c : Cel Nd} (w : World) (h : CellsN 124 w g l) (hi : l[i]? = some c) (hx : w.heap[bx]? = some (.cells #[.int .i64 kn, .string cd, .string vl, .string pt, .slice ya yn yc, .slice za zn zc, .bool pl, .bool di] 61 (0, 0))) :
    Calls Tryz.prog 104 #[.pointer (some ⟨g, i * 10, none⟩), .pointer (some ⟨bx, 0, none⟩)] w fun e w' => e = .returned (.tuple #[]) ∧ CellsN 124 w' g (l.set i ⟨c.is, (⟨kn, cd, vl, pt, ⟨ya, yn, yc⟩, ⟨za, zn, zc⟩, pl, di⟩ : Nd), c.gen⟩) ∧ Mod (· = g) w w' := by
  obtain ⟨⟨c0, c1, c2, c3, c4, c5, c6, c7, c8, c9⟩, cf, g1, g2⟩ := h.cell hi
  have HP := hid (h.put8 hi (⟨kn, cd, vl, pt, ⟨ya, yn, yc⟩, ⟨za, zn, zc⟩, pl, di⟩ : Nd))
  have x0 := cell_of hx 0
  have x1 := cell_of hx 1
  have x2 := cell_of hx 2
  have x3 := cell_of hx 3
  have x4 := cell_of hx 4
  have x5 := cell_of hx 5
  have x6 := cell_of hx 6
  have x7 := cell_of hx 7
  obtain ⟨is, x, gen⟩ := c
  simp only at c0 c1 c2 c3 c4 c5 c6 c7 c8 c9 g1 g2
  clear h hi hx c0 c9
  go_enter Tryz.func104, Tryz.ntmps104
  go_wp2
  go_end0
  refine ⟨rfl, HP.out, ?_⟩
  exact Mod.setCell (S := (· = g)) (p := ⟨g, i * 10 + 8, none⟩) (Mod.setCell (S := (· = g)) (p := ⟨g, i * 10 + 7, none⟩) (Mod.setCell (S := (· = g)) (p := ⟨g, i * 10 + 6, none⟩) (Mod.setCell (S := (· = g)) (p := ⟨g, i * 10 + 5, none⟩) (Mod.setCell (S := (· = g)) (p := ⟨g, i * 10 + 4, none⟩) (Mod.setCell (S := (· = g)) (p := ⟨g, i * 10 + 3, none⟩) (Mod.setCell (S := (· = g)) (p := ⟨g, i * 10 + 2, none⟩) (Mod.setCell (S := (· = g)) (p := ⟨g, i * 10 + 1, none⟩) (Mod.refl _ _) (.inl rfl) _) (.inl rfl) _) (.inl rfl) _) (.inl rfl) _) (.inl rfl) _) (.inl rfl) _) (.inl rfl) _) (.inl rfl) _
theorem turn_set {b g i bx : Nat} {l : List (Cel Nd)} {c : Cel Nd} (slot gen : Int) (w : World) (h : SlabN 124 106 w b g l) (hL : Live l slot gen i c) (hx : w.heap[bx]? = some (.cells #[.int .i64 kn, .string cd, .string vl, .string pt, .slice ya yn yc, .slice za zn zc, .bool pl, .bool di] 61 (0, 0))) :
    Calls Tryz.prog 100 #[.pointer (some ⟨b, 0, none⟩), .agg #[.int .i64 slot, .int .u32 gen], .func (.func 104) #[] #[.pointer (some ⟨bx, 0, none⟩)]] w fun e w' => e = .returned (.int .i64 0) ∧ CellsN 124 w' g (l.set i ⟨c.is, (⟨kn, cd, vl, pt, ⟨ya, yn, yc⟩, ⟨za, zn, zc⟩, pl, di⟩ : Nd), c.gen⟩) ∧ Mod (· = g) w w' := by
  have hN := heap_new w (.cells #[.int .i64 slot, .int .u32 gen] 30 (0, 0))
  have hA := h.alloc (.cells #[.int .i64 slot, .int .u32 gen] 30 (0, 0))
  have hbl := h.blt
  have hgl := h.glt
  go_enter Tryz.func100, Tryz.ntmps100
  go_wp2_with fail
  refine (there_any _ hA).mono ?_
  rintro e w1 ⟨rfl, hw1⟩
  have hS := hA.keep hw1
  have hN2 := blk_below hN hw1 (by simp)
  have hX2 := blk_below (blk_alloc hx) hw1 (by simp; have := lt_of_block hx; omega)
  have hl2 := lt_of_block hN2
  have HB : Hid (Below w.heap.size w w1) := hid (((Below.refl _ _).alloc (Nat.le_refl _) _).trans (hw1.mono (by simp)))
  have hsz := HB.out.size
  clear hw1 hA hN
  rename World => wa
  go_wp2_with fail
  have HD := hid (fun (w1 : World) (hw1 : Below wa.heap.size wa w1) => at_live slot gen w1 (hS.keep hw1) hL)
  refine wp_region_seq 10 (fun w1 => Below (wa).heap.size (wa) w1) (by kernel_rfl) (by kernel_rfl) (by kernel_rfl) ⟨rfl, rfl, rfl, Nat.le_refl _, fun _ _ => rfl⟩ ?_
  dsimp only [List.take]
  iterate 10
    refine Seq.cons (a' := ?_) ?_ ?_ ?_
    rotate_left
    ·
      intro w1 hw1
      have hS := hS.keep hw1
      obtain ⟨s0, sf⟩ := hS.head
      have hn := blk_below hN2 hw1 hl2
      have n0 := cell_of hn 0
      have n1 := cell_of hn 1
      go_wp2_with (go_at_call 67; refine (HD.out _ hw1).mono ?_; rintro e w' ⟨rfl, hb⟩)
      refine ⟨?_, by first | assumption | (simpa using below_chain hw1 hb hw1.size)⟩
      exact rfl
    · kernel_rfl
  refine SeqI.nil ?_
  intro _ w1 _ hw1
  dsimp only [List.drop]
  have hM1 : Mod (· = g) w w1 := Mod.ofBelow (HB.out.trans (hw1.mono hsz))
  have hC1 := (hS.keep hw1).hc
  have hX3 := blk_below hX2 hw1 (lt_of_block hX2)
  go_wp2_with fail
  refine (set1_any _ hC1 hL.2.1 hX3).mono ?_
  rintro e w2 ⟨rfl, hC2, hM2⟩
  go_wp2
  go_ret
  exact ⟨rfl, hC2, hM1.trans hM2 (fun _ _ h => h)⟩
theorem set_live {b g i : Nat} {l : List (Cel Nd)} {c : Cel Nd} (slot gen : Int) (w : World) (h : SlabN 124 106 w b g l) (hL : Live l slot gen i c) :
    Calls Tryz.prog 76 #[.pointer (some ⟨b, 0, none⟩), .agg #[.int .i64 slot, .int .u32 gen], .agg #[.int .i64 kn, .string cd, .string vl, .string pt, .slice ya yn yc, .slice za zn zc, .bool pl, .bool di]] w fun e w' => e = .returned (.int .i64 0) ∧ SlabN 124 106 w' b g (l.set i ⟨c.is, (⟨kn, cd, vl, pt, ⟨ya, yn, yc⟩, ⟨za, zn, zc⟩, pl, di⟩ : Nd), c.gen⟩) ∧ Mod (· = g) w w' := by
  have hmf : ∀ (fn : Fn) (first cap : Array Value) (w : World), (Instr.makeFunc fn first cap).run Tryz.prog w = .ok (.func fn first cap) w := fun _ _ _ _ => rfl
  have hA := (h.alloc (.cells #[.int .i64 slot, .int .u32 gen] 30 (0, 0))).alloc (.cells #[.int .i64 kn, .string cd, .string vl, .string pt, .slice ya yn yc, .slice za zn zc, .bool pl, .bool di] 61 (0, 0))
  have hs1 : (w.alloc (.cells #[.int .i64 slot, .int .u32 gen] 30 (0, 0))).heap.size = w.heap.size + 1 := by simp
  have hn := blk_alloc (o' := (.cells #[.int .i64 kn, .string cd, .string vl, .string pt, .slice ya yn yc, .slice za zn zc, .bool pl, .bool di] 61 (0, 0))) (heap_new w (.cells #[.int .i64 slot, .int .u32 gen] 30 (0, 0)))
  have hx := heap_new (w.alloc (.cells #[.int .i64 slot, .int .u32 gen] 30 (0, 0))) (.cells #[.int .i64 kn, .string cd, .string vl, .string pt, .slice ya yn yc, .slice za zn zc, .bool pl, .bool di] 61 (0, 0))
  rw [hs1] at hx
  have n0 := cell_of hn 0
  have n1 := cell_of hn 1
  have hbl := h.blt
  have hgl := h.glt
  have H := hid h
  clear hs1 h hn
  go_enter Tryz.func76, Tryz.ntmps76
  go_wp2_with fail
  refine (turn_set slot gen _ hA hL hx).mono ?_
  rintro e w1 ⟨rfl, hC, hM⟩
  go_wp2
  go_ret
  have hM1 := (((Mod.refl (· = g) w).alloc (.cells #[.int .i64 slot, .int .u32 gen] 30 (0, 0))).alloc (.cells #[.int .i64 kn, .string cd, .string vl, .string pt, .slice ya yn yc, .slice za zn zc, .bool pl, .bool di] 61 (0, 0))).trans hM (fun _ _ h => h)
  exact ⟨rfl, H.out.turn hC (by simp) hM1, hM1⟩
end
end Go.Proofs.YtnngicopphiaaaaGreatDoor.S
