/- Part 18 of 51 of a proof: lemmas on the functions that it reaches. -/
import Derived.Test.YtnngicopphiaaaaGreatDoorC17
import Derived.Test.YtnngicopphiaaaaGreatDoorC07
import Derived.Laws.ResultCell
namespace Go.Proofs.YtnngicopphiaaaaGreatDoor.O
set_option maxRecDepth 8000
open Go.ChangeShapes Go.WideShapes Go.ChangeAt Go.RowKit Go.Burg
section
variable {w w' : World} {k : Nat} {pt : ByteArray} {ya za : Option Addr} {yn yc zn zc : Nat} {L : List Kd}
theorem roomOf_four (h1 : 2 ≤ k) (h2 : k ≤ 5) : roomOf k = 4 ∨ roomOf k = 16 ∨ roomOf k = 48 ∨ roomOf k = 256 := by
  rcases (by omega : k = 2 ∨ k = 3 ∨ k = 4 ∨ k = 5) with rfl | rfl | rfl | rfl <;> simp [roomOf]
theorem mod_set2 (w : World) (c : Nat) (v v' : Value) : Mod (· = c) w ((w.setCell ⟨c, 0, none⟩ v).setCell ⟨c, 1, none⟩ v') :=
  Mod.setCell (S := (· = c)) (p := ⟨c, 1, none⟩) (Mod.setCell (S := (· = c)) (p := ⟨c, 0, none⟩) (Mod.refl _ _) (.inl rfl) v) (.inl rfl) v'
theorem set2_at {T : TypeId} {c : Nat} {a b v v' : Value} (h : w.heap[c]? = some (.cells #[a, b] T (0, 0))) : ((w.setCell ⟨c, 0, none⟩ v).setCell ⟨c, 1, none⟩ v').heap[c]? = some (.cells #[v, v'] T (0, 0)) := by
  have := heap_set (i := 1) (v := v') (heap_set (i := 0) (v := v) h)
  simpa using this
set_option maxRecDepth 20000 in
set_option maxHeartbeats 4000000 in
theorem Find_at (y : Int) (hy : 0 ≤ y ∧ y < 256) (h : NodeIn w k pt ya yn yc za zn zc L) (hr : RoomsAt w) (hm : MayB k zn pt) :
    Calls Tryz.prog 75 #[(.agg #[.int .i64 k, .string ⟨#[]⟩, .string ⟨#[]⟩, .string pt, .slice ya yn yc, .slice za zn zc]), .int .u8 y] w fun e w' => e = .returned (.tuple #[.agg #[.int .i64 ((findK L y).elim 0 Kd.s), .int .u32 ((findK L y).elim 0 Kd.g)], .bool (findK L y).isSome]) ∧ Below w.heap.size w w' := by
  have hnf : ∀ (w : World) (b : Nat), (nilAhead 369 195 (.pointer (some ⟨b, 0, none⟩)) "Find").run Tryz.prog w = .ok (some false) w := fun w b => by kernel_rfl
  have hnm : ∀ (w : World) (b : Nat), (nilAhead 369 198 (.pointer (some ⟨b, 0, none⟩)) "Find").run Tryz.prog w = .ok (some false) w := fun w b => by kernel_rfl
  have hmt : ∀ (w : World) (b : Nat), (method 369 195 (.pointer (some ⟨b, 0, none⟩)) "Find").run Tryz.prog w = .ok (167, .pointer (some ⟨b, 0, none⟩)) w := fun w b => by kernel_rfl
  have hmu : ∀ (w : World) (b : Nat), (method 369 198 (.pointer (some ⟨b, 0, none⟩)) "Find").run Tryz.prog w = .ok (182, .pointer (some ⟨b, 0, none⟩)) w := fun w b => by kernel_rfl
  have hs1 : (w.alloc (.cells #[.int .i64 k, .string ⟨#[]⟩, .string ⟨#[]⟩, .string pt, .slice ya yn yc, .slice za zn zc] 53 (0, 0))).heap.size = w.heap.size + 1 := by simp
  have hs2 : ((w.alloc (.cells #[.int .i64 k, .string ⟨#[]⟩, .string ⟨#[]⟩, .string pt, .slice ya yn yc, .slice za zn zc] 53 (0, 0))).alloc (.cells #[.int .i64 0, .int .u32 0] 30 (0, 0))).heap.size = w.heap.size + 1 + 1 := by simp
  have hs3 : (((w.alloc (.cells #[.int .i64 k, .string ⟨#[]⟩, .string ⟨#[]⟩, .string pt, .slice ya yn yc, .slice za zn zc] 53 (0, 0))).alloc (.cells #[.int .i64 0, .int .u32 0] 30 (0, 0))).alloc (.cells #[.int .i64 k, .string ⟨#[]⟩, .string ⟨#[]⟩, .string pt, .slice ya yn yc, .slice za zn zc] 136 (0, 0))).heap.size = w.heap.size + 1 + 1 + 1 := by simp
  have b0 := blk_alloc2 (o' := (.cells #[.int .i64 k, .string ⟨#[]⟩, .string ⟨#[]⟩, .string pt, .slice ya yn yc, .slice za zn zc] 136 (0, 0))) (blk_alloc2 (o' := (.cells #[.int .i64 0, .int .u32 0] 30 (0, 0))) (heap_new w (.cells #[.int .i64 k, .string ⟨#[]⟩, .string ⟨#[]⟩, .string pt, .slice ya yn yc, .slice za zn zc] 53 (0, 0))))
  have b1 := blk_alloc2 (o' := (.cells #[.int .i64 k, .string ⟨#[]⟩, .string ⟨#[]⟩, .string pt, .slice ya yn yc, .slice za zn zc] 136 (0, 0))) (heap_new (w.alloc (.cells #[.int .i64 k, .string ⟨#[]⟩, .string ⟨#[]⟩, .string pt, .slice ya yn yc, .slice za zn zc] 53 (0, 0))) (.cells #[.int .i64 0, .int .u32 0] 30 (0, 0)))
  have b2 := heap_new ((w.alloc (.cells #[.int .i64 k, .string ⟨#[]⟩, .string ⟨#[]⟩, .string pt, .slice ya yn yc, .slice za zn zc] 53 (0, 0))).alloc (.cells #[.int .i64 0, .int .u32 0] 30 (0, 0))) (.cells #[.int .i64 k, .string ⟨#[]⟩, .string ⟨#[]⟩, .string pt, .slice ya yn yc, .slice za zn zc] 136 (0, 0))
  rw [hs1] at b1
  rw [hs2] at b2
  have hB : Below w.heap.size w (((w.alloc (.cells #[.int .i64 k, .string ⟨#[]⟩, .string ⟨#[]⟩, .string pt, .slice ya yn yc, .slice za zn zc] 53 (0, 0))).alloc (.cells #[.int .i64 0, .int .u32 0] 30 (0, 0))).alloc (.cells #[.int .i64 k, .string ⟨#[]⟩, .string ⟨#[]⟩, .string pt, .slice ya yn yc, .slice za zn zc] 136 (0, 0))) := (((Below.refl _ _).alloc (Nat.le_refl _) _).alloc (by simp) _).alloc (by simp; omega) _
  have HM := hid (may_at (h.keep hB) (hr.keep hB) hm)
  have HI := hid (h.keep hB)
  have HR := hid (hr.keep hB)
  have HY := hid hy
  have HR0 := hid hr
  have HI0 := hid h
  clear h hr hm hy
  go_enter Tryz.func75, Tryz.ntmps75
  go_wp2_with fail
  have hK2 := HI.out.k2
  generalize hWl : (((w.alloc (.cells #[.int .i64 k, .string ⟨#[]⟩, .string ⟨#[]⟩, .string pt, .slice ya yn yc, .slice za zn zc] 53 (0, 0))).alloc (.cells #[.int .i64 0, .int .u32 0] 30 (0, 0))).alloc (.cells #[.int .i64 k, .string ⟨#[]⟩, .string ⟨#[]⟩, .string pt, .slice ya yn yc, .slice za zn zc] 136 (0, 0))) = Wl at *
  generalize hu : w.heap.size = u at *
  refine HM.out.mono ?_
  rintro e w2 ⟨rfl, hB2⟩
  have H0 := hid ((hB2.block _ (lt_of_block b0)).trans b0)
  have H1 := hid ((hB2.block _ (lt_of_block b1)).trans b1)
  have H2 := hid ((hB2.block _ (lt_of_block b2)).trans b2)
  have HI2 := hid (HI.out.keep hB2)
  have HR2 := hid (HR.out.keep hB2)
  have HBB := hid (hB.trans (hB2.mono (by omega)))
  have HLT := hid (lt_of_block H1.out)
  have HU := hid hu
  have HUP := hid (show 0 < u by rw [← hu]; exact HR0.out.lt)
  clear hB2 hB b0 b1 b2 HM HI HR hWl hs1 hs2 hs3 hu
  go_wp2_with fail
  refine wp_region_val 11 (LJ w2 (u + 1) 4 9 L (roomOf k) [0, 1, 2, 3, 5, 6, 7, 8, 10] (fun j => ([(.agg #[.int .i64 k, .string ⟨#[]⟩, .string ⟨#[]⟩, .string pt, .slice ya yn yc, .slice za zn zc]), .pointer (some ⟨u, 0, none⟩), .int .i64 k, .int .i64 (roomOf k), undef, .int .u8 y, .tuple #[.agg #[.int .i64 ((findK L y).elim 0 Kd.s), .int .u32 ((findK L y).elim 0 Kd.g)], .bool (findK L y).isSome], .agg #[.int .i64 ((findK L y).elim 0 Kd.s), .int .u32 ((findK L y).elim 0 Kd.g)], .bool (findK L y).isSome, undef, .bool (findK L y).isSome] : List Value)[j]?.getD undef) (.cells #[.int .i64 0, .int .u32 0] 30 (0, 0)) (.cells #[.int .i64 ((findK L y).elim 0 Kd.s), .int .u32 ((findK L y).elim 0 Kd.g)] 30 (0, 0))) (by kernel_rfl) (by kernel_rfl) (by kernel_rfl) ?h0 ?hs ?hend
  case h0 => exact LJ.start H1.out
  case hs =>
    dsimp only [List.take, AllOpsI, dsts, fill]
    refine ⟨?_, ?_, ?_, ?_, ?_, ?_, ?_, ?_, ?_, ?_, ?_⟩
    · intro D xs w1 hDk hwt hJ
      skip
      have hk0 := (hJ.m.block u (lt_of_block H0.out) (by show ¬ u = u + 1; omega)).trans H0.out
      have hk2 := (hJ.m.block (u + 1 + 1) (lt_of_block H2.out) (by show ¬ u + 1 + 1 = u + 1; omega)).trans H2.out
      have q0 := cell_of hk0 0
      have p0 := cell_of hk2 0
      have p1 := cell_of hk2 1
      have p2 := cell_of hk2 2
      have p3 := cell_of hk2 3
      have p4 := cell_of hk2 4
      have p5 := cell_of hk2 5
      have HJ := hid hJ
      clear hDk hwt hJ hk0 hk2
      go_wp2_with fail
      first | exact ⟨(.agg #[.int .i64 k, .string ⟨#[]⟩, .string ⟨#[]⟩, .string pt, .slice ya yn yc, .slice za zn zc]), by kernel_rfl, fun q hq => by obtain rfl := hq rfl; exact HJ.out.calm HLT.out (by decide) (by decide) (fun _ => rfl) (Below.refl _ _)⟩ | exact ⟨(.agg #[.int .i64 k, .string ⟨#[]⟩, .string ⟨#[]⟩, .string pt, .slice ya yn yc, .slice za zn zc]), by kernel_rfl, HJ.out.calm HLT.out (by decide) (by decide) (fun _ => rfl) (Below.refl _ _)⟩
    · intro D xs w1 hDk hwt hJ
      skip
      have hk0 := (hJ.m.block u (lt_of_block H0.out) (by show ¬ u = u + 1; omega)).trans H0.out
      have hk2 := (hJ.m.block (u + 1 + 1) (lt_of_block H2.out) (by show ¬ u + 1 + 1 = u + 1; omega)).trans H2.out
      have q0 := cell_of hk0 0
      have p0 := cell_of hk2 0
      have p1 := cell_of hk2 1
      have p2 := cell_of hk2 2
      have p3 := cell_of hk2 3
      have p4 := cell_of hk2 4
      have p5 := cell_of hk2 5
      have HJ := hid hJ
      clear hDk hwt hJ hk0 hk2
      go_wp2_with fail
      first | exact ⟨.pointer (some ⟨u, 0, none⟩), by kernel_rfl, fun q hq => by obtain rfl := hq rfl; exact HJ.out.calm HLT.out (by decide) (by decide) (fun _ => rfl) (Below.refl _ _)⟩ | exact ⟨.pointer (some ⟨u, 0, none⟩), by kernel_rfl, HJ.out.calm HLT.out (by decide) (by decide) (fun _ => rfl) (Below.refl _ _)⟩
    · intro D xs w1 hDk hwt hJ
      have ee : xs 1 = .pointer (some ⟨u, 0, none⟩) := hJ.v 1 (hwt 1 (List.mem_of_elem_eq_true (by kernel_rfl))) (by decide)
      rw [ee]
      clear ee
      have hk0 := (hJ.m.block u (lt_of_block H0.out) (by show ¬ u = u + 1; omega)).trans H0.out
      have hk2 := (hJ.m.block (u + 1 + 1) (lt_of_block H2.out) (by show ¬ u + 1 + 1 = u + 1; omega)).trans H2.out
      have q0 := cell_of hk0 0
      have p0 := cell_of hk2 0
      have p1 := cell_of hk2 1
      have p2 := cell_of hk2 2
      have p3 := cell_of hk2 3
      have p4 := cell_of hk2 4
      have p5 := cell_of hk2 5
      have HJ := hid hJ
      clear hDk hwt hJ hk0 hk2
      go_wp2_with fail
      first | exact ⟨.int .i64 k, by kernel_rfl, fun q hq => by obtain rfl := hq rfl; exact HJ.out.calm HLT.out (by decide) (by decide) (fun _ => rfl) (Below.refl _ _)⟩ | exact ⟨.int .i64 k, by kernel_rfl, HJ.out.calm HLT.out (by decide) (by decide) (fun _ => rfl) (Below.refl _ _)⟩
    · intro D xs w1 hDk hwt hJ
      have ee : xs 2 = .int .i64 k := hJ.v 2 (hwt 2 (List.mem_of_elem_eq_true (by kernel_rfl))) (by decide)
      rw [ee]
      clear ee
      have HRM := hid (room_at k hK2 w1 (HR2.out.same (hJ.m.block 0 HR2.out.lt (by show ¬ 0 = u + 1; omega))))
      have HJ := hid hJ
      clear hDk hwt hJ
      go_wp2_with (go_at_call 83; refine HRM.out.mono ?_; rintro e w3 ⟨rfl, rfl⟩)
      first | exact ⟨.int .i64 (roomOf k), by kernel_rfl, fun q hq => by obtain rfl := hq rfl; exact HJ.out.calm HLT.out (by decide) (by decide) (fun _ => rfl) (Below.refl _ _)⟩ | exact ⟨.int .i64 (roomOf k), by kernel_rfl, HJ.out.calm HLT.out (by decide) (by decide) (fun _ => rfl) (Below.refl _ _)⟩
    · intro D xs w1 hDk hwt hJ
      have ee : xs 0 = (.agg #[.int .i64 k, .string ⟨#[]⟩, .string ⟨#[]⟩, .string pt, .slice ya yn yc, .slice za zn zc]) := hJ.v 0 (hwt 0 (List.mem_of_elem_eq_true (by kernel_rfl))) (by decide)
      rw [ee]
      clear ee
      have ee : xs 3 = .int .i64 (roomOf k) := hJ.v 3 (hwt 3 (List.mem_of_elem_eq_true (by kernel_rfl))) (by decide)
      rw [ee]
      clear ee
      have hb1 : Below w.heap.size w w1 := by
        rw [HU.out]
        exact HBB.out.trans ⟨hJ.m.os, hJ.m.tape, hJ.m.output, hJ.m.size, fun i hi => hJ.m.block i (by have := HLT.out; omega) (by show ¬ i = u + 1; omega)⟩
      have HLD := hid (laid_at (roomOf k) (HI0.out.keep hb1) (roomOf_four HI0.out.k1 HI0.out.k2) HI0.out.len)
      have HJ := hid hJ
      clear hDk hwt hJ hb1
      go_wp2_with (go_at_call 82; refine HLD.out.mono ?_; rintro e w3 ⟨v, rfl, hK, hb⟩)
      exact ⟨v, by kernel_rfl, fun q hq => by obtain rfl := hq rfl; exact HJ.out.laid (by decide) (by decide) hK hb⟩
    · intro D xs w1 hDk hwt hJ
      skip
      have hk0 := (hJ.m.block u (lt_of_block H0.out) (by show ¬ u = u + 1; omega)).trans H0.out
      have hk2 := (hJ.m.block (u + 1 + 1) (lt_of_block H2.out) (by show ¬ u + 1 + 1 = u + 1; omega)).trans H2.out
      have q0 := cell_of hk0 0
      have p0 := cell_of hk2 0
      have p1 := cell_of hk2 1
      have p2 := cell_of hk2 2
      have p3 := cell_of hk2 3
      have p4 := cell_of hk2 4
      have p5 := cell_of hk2 5
      have HJ := hid hJ
      clear hDk hwt hJ hk0 hk2
      go_wp2_with fail
      first | exact ⟨.int .u8 y, by kernel_rfl, fun q hq => by obtain rfl := hq rfl; exact HJ.out.calm HLT.out (by decide) (by decide) (fun _ => rfl) (Below.refl _ _)⟩ | exact ⟨.int .u8 y, by kernel_rfl, HJ.out.calm HLT.out (by decide) (by decide) (fun _ => rfl) (Below.refl _ _)⟩
    · intro D xs w1 hDk hwt hJ
      have ee : xs 5 = .int .u8 y := hJ.v 5 (hwt 5 (List.mem_of_elem_eq_true (by kernel_rfl))) (by decide)
      rw [ee]
      clear ee
      have hK := hJ.l (hwt 4 (List.mem_of_elem_eq_true (by kernel_rfl)))
      have HJ := hid hJ
      clear hDk hwt hJ
      rcases hK with ⟨x, hx, e4, hF⟩ | ⟨x, gr, gu, hx, e4, hF⟩
      · rw [e4]
        have HF := hid (F.fFind_L y w1 hF)
        clear hF hx
        go_wp2_with (go_at_call 167; refine HF.out.mono ?_; rintro e w3 ⟨rfl, hb⟩)
        exact ⟨.tuple #[.agg #[.int .i64 ((findK L y).elim 0 Kd.s), .int .u32 ((findK L y).elim 0 Kd.g)], .bool (findK L y).isSome], by kernel_rfl, fun q hq => by obtain rfl := hq rfl; exact HJ.out.calm HLT.out (by decide) (by decide) (fun _ => rfl) hb⟩
      · rw [e4]
        have HF := hid (M.find_L y HY.out hF)
        clear hF hx
        go_wp2_with (go_at_call 182; refine HF.out.mono ?_; rintro e w3 ⟨rfl, hb⟩)
        exact ⟨.tuple #[.agg #[.int .i64 ((findK L y).elim 0 Kd.s), .int .u32 ((findK L y).elim 0 Kd.g)], .bool (findK L y).isSome], by kernel_rfl, fun q hq => by obtain rfl := hq rfl; exact HJ.out.calm HLT.out (by decide) (by decide) (fun _ => rfl) hb⟩
    · intro D xs w1 hDk hwt hJ
      have ee : xs 6 = .tuple #[.agg #[.int .i64 ((findK L y).elim 0 Kd.s), .int .u32 ((findK L y).elim 0 Kd.g)], .bool (findK L y).isSome] := hJ.v 6 (hwt 6 (List.mem_of_elem_eq_true (by kernel_rfl))) (by decide)
      rw [ee]
      clear ee
      have hk0 := (hJ.m.block u (lt_of_block H0.out) (by show ¬ u = u + 1; omega)).trans H0.out
      have hk2 := (hJ.m.block (u + 1 + 1) (lt_of_block H2.out) (by show ¬ u + 1 + 1 = u + 1; omega)).trans H2.out
      have q0 := cell_of hk0 0
      have p0 := cell_of hk2 0
      have p1 := cell_of hk2 1
      have p2 := cell_of hk2 2
      have p3 := cell_of hk2 3
      have p4 := cell_of hk2 4
      have p5 := cell_of hk2 5
      have HJ := hid hJ
      clear hDk hwt hJ hk0 hk2
      go_wp2_with fail
      first | exact ⟨.agg #[.int .i64 ((findK L y).elim 0 Kd.s), .int .u32 ((findK L y).elim 0 Kd.g)], by kernel_rfl, fun q hq => by obtain rfl := hq rfl; exact HJ.out.calm HLT.out (by decide) (by decide) (fun _ => rfl) (Below.refl _ _)⟩ | exact ⟨.agg #[.int .i64 ((findK L y).elim 0 Kd.s), .int .u32 ((findK L y).elim 0 Kd.g)], by kernel_rfl, HJ.out.calm HLT.out (by decide) (by decide) (fun _ => rfl) (Below.refl _ _)⟩
    · intro D xs w1 hDk hwt hJ
      have ee : xs 6 = .tuple #[.agg #[.int .i64 ((findK L y).elim 0 Kd.s), .int .u32 ((findK L y).elim 0 Kd.g)], .bool (findK L y).isSome] := hJ.v 6 (hwt 6 (List.mem_of_elem_eq_true (by kernel_rfl))) (by decide)
      rw [ee]
      clear ee
      have hk0 := (hJ.m.block u (lt_of_block H0.out) (by show ¬ u = u + 1; omega)).trans H0.out
      have hk2 := (hJ.m.block (u + 1 + 1) (lt_of_block H2.out) (by show ¬ u + 1 + 1 = u + 1; omega)).trans H2.out
      have q0 := cell_of hk0 0
      have p0 := cell_of hk2 0
      have p1 := cell_of hk2 1
      have p2 := cell_of hk2 2
      have p3 := cell_of hk2 3
      have p4 := cell_of hk2 4
      have p5 := cell_of hk2 5
      have HJ := hid hJ
      clear hDk hwt hJ hk0 hk2
      go_wp2_with fail
      first | exact ⟨.bool (findK L y).isSome, by kernel_rfl, fun q hq => by obtain rfl := hq rfl; exact HJ.out.calm HLT.out (by decide) (by decide) (fun _ => rfl) (Below.refl _ _)⟩ | exact ⟨.bool (findK L y).isSome, by kernel_rfl, HJ.out.calm HLT.out (by decide) (by decide) (fun _ => rfl) (Below.refl _ _)⟩
    · intro D xs w1 hDk hwt hJ
      have hD : D 9 = false := hDk
      have ee : xs 7 = .agg #[.int .i64 ((findK L y).elim 0 Kd.s), .int .u32 ((findK L y).elim 0 Kd.g)] := hJ.v 7 (hwt 7 (List.mem_of_elem_eq_true (by kernel_rfl))) (by decide)
      rw [ee]
      clear ee
      have hc := hJ.c
      rw [hD] at hc
      simp only [cond_false] at hc
      have q0 := cell_of hc 0
      have q1 := cell_of hc 1
      have qf := free_of hc
      have HC := hid hc
      have HJ := hid hJ
      clear hDk hwt hJ hD hc
      go_wp2_with fail
      exact ⟨undef, by kernel_rfl, fun q _ => HJ.out.store HLT.out (by decide) (by decide) (mod_set2 _ _ _ _) (set2_at HC.out)⟩
    · intro D xs w1 hDk hwt hJ
      have ee : xs 8 = .bool (findK L y).isSome := hJ.v 8 (hwt 8 (List.mem_of_elem_eq_true (by kernel_rfl))) (by decide)
      rw [ee]
      clear ee
      have hk0 := (hJ.m.block u (lt_of_block H0.out) (by show ¬ u = u + 1; omega)).trans H0.out
      have hk2 := (hJ.m.block (u + 1 + 1) (lt_of_block H2.out) (by show ¬ u + 1 + 1 = u + 1; omega)).trans H2.out
      have q0 := cell_of hk0 0
      have p0 := cell_of hk2 0
      have p1 := cell_of hk2 1
      have p2 := cell_of hk2 2
      have p3 := cell_of hk2 3
      have p4 := cell_of hk2 4
      have p5 := cell_of hk2 5
      have HJ := hid hJ
      clear hDk hwt hJ hk0 hk2
      go_wp2_with fail
      first | exact ⟨.bool (findK L y).isSome, by kernel_rfl, fun q hq => by obtain rfl := hq rfl; exact HJ.out.calm HLT.out (by decide) (by decide) (fun _ => rfl) (Below.refl _ _)⟩ | exact ⟨.bool (findK L y).isSome, by kernel_rfl, HJ.out.calm HLT.out (by decide) (by decide) (fun _ => rfl) (Below.refl _ _)⟩
  case hend =>
    intro D xs w1 hD hJ
    have hc := hJ.c
    rw [hD 9 (by omega)] at hc
    simp only [cond_true] at hc
    have e10 : xs 10 = .bool (findK L y).isSome := hJ.v 10 (hD 10 (by omega)) (by decide)
    dsimp only [List.take, dsts, fill, List.drop]
    rw [e10]
    have q0 := cell_of hc 0
    have q1 := cell_of hc 1
    have hbl : Below u w w1 := HBB.out.trans ⟨hJ.m.os, hJ.m.tape, hJ.m.output, hJ.m.size, fun i hi => hJ.m.block i (by have := HLT.out; omega) (by show ¬ i = u + 1; omega)⟩
    have HBL := hid hbl
    clear hD hJ hc e10 hbl
    go_wp2_with fail
    refine bodyPost_ret (v := .tuple #[.agg #[_, _], _]) (by simp [results, Tryz.results75, go_sem, q0, q1]) rfl ⟨rfl, ?_⟩
    rw [HU.out]
    exact HBL.out
end
end Go.Proofs.YtnngicopphiaaaaGreatDoor.O

namespace Go.Burg
open Go Go.RowKit
theorem results_ct {P : Program} {fn : Func} {p u : Tmp} {ty : TypeId} (h : fn.results = #[.cell p ty, .tmp u]) (tmps : Array Value) (w : World) (g : Nat) (t : TypeId) (cs : Array Value) (fr : Nat × Nat) (d : TypeDesc)
    (hp : tmps.getD p undef = .pointer (some ⟨g, 0, none⟩)) (hg : w.heap[g]? = some (.cells cs t fr))
    (hu : P.underlying ty = some d) (hd : (match d with | .struct _ | .array _ _ => true | _ => false) = true) (hi : (P.info? ty).map (·.size) = some cs.size) :
    (results fn tmps).run P w = .ok (.tuple #[.agg cs, tmps.getD u undef]) w := by
  rw [results_cell_tmp h, hp]
  simp [asAddr, run_loadVar_row w g t ty cs fr d hg hu hd hi]
end Go.Burg
namespace Go.Proofs.YtnngicopphiaaaaGreatDoor.O
set_option maxRecDepth 8000
open Go.ChangeShapes Go.WideShapes Go.ChangeAt Go.RowKit Go.Burg
theorem set6_at {T : TypeId} {W : World} {c : Nat} {a0 a1 a2 a3 a4 a5 : Value} (b0 b1 b2 b3 b4 b5 : Value) (h : W.heap[c]? = some (.cells #[a0, a1, a2, a3, a4, a5] T (0, 0))) :
    ((((((W.setCell ⟨c, 0, none⟩ b0).setCell ⟨c, 1, none⟩ b1).setCell ⟨c, 2, none⟩ b2).setCell ⟨c, 3, none⟩ b3).setCell ⟨c, 4, none⟩ b4).setCell ⟨c, 5, none⟩ b5).heap[c]? = some (.cells #[b0, b1, b2, b3, b4, b5] T (0, 0)) ∧ Mod (· = c) W ((((((W.setCell ⟨c, 0, none⟩ b0).setCell ⟨c, 1, none⟩ b1).setCell ⟨c, 2, none⟩ b2).setCell ⟨c, 3, none⟩ b3).setCell ⟨c, 4, none⟩ b4).setCell ⟨c, 5, none⟩ b5) := by
  have stp : ∀ {A : World} (j : Nat) (v : Value), Mod (· = c) W A → Mod (· = c) W (A.setCell ⟨c, j, none⟩ v) := fun j v h => Mod.setCell (S := (· = c)) (p := ⟨c, j, none⟩) h (.inl rfl) v
  refine ⟨?_, stp _ _ (stp _ _ (stp _ _ (stp _ _ (stp _ _ (stp _ _ (Mod.refl _ _))))))⟩
  have := heap_set (i := 5) (v := b5) (heap_set (i := 4) (v := b4) (heap_set (i := 3) (v := b3) (heap_set (i := 2) (v := b2) (heap_set (i := 1) (v := b1) (heap_set (i := 0) (v := b0) h)))))
  simpa using this
theorem own_off {w : World} {B : Nat} {e T : TypeId} {s n c : Nat} {v : Value} {xs : List Value} {cs : Array Value} (h : w.ownsRow B e s v n xs) (hc : w.heap[c]? = some (.cells cs T (0, 0))) (hne : T ≠ e) : ∀ k, v.ownBlock = some k → ¬ k = c := by
  rintro k h1 rfl
  obtain ⟨_, ⟨rfl, _⟩ | ⟨g, cap, cur, rfl, _, hg, _⟩⟩ := h
  · simp [Value.ownBlock] at h1
  · simp only [Value.ownBlock, Option.some.injEq] at h1
    subst h1
    rw [hc] at hg
    simp at hg
    exact hne hg.2
theorem turnK_len (L : List Kd) (y s g : Int) : (turnK L y s g).length = L.length := by simp [turnK]
theorem turnK_ok {L : List Kd} {y s g : Int} (h : ∀ x ∈ L, x.ok) (hk : (⟨y, s, g⟩ : Kd).ok) : ∀ x ∈ turnK L y s g, x.ok := by
  intro x hx
  obtain ⟨z, hz, rfl⟩ := List.mem_map.1 hx
  split
  · exact hk
  · exact h z hz
section
variable {w w' : World} {k k' : Nat} {pt : ByteArray} {ya za : Option Addr} {yn yc zn zc : Nat} {L : List Kd}
theorem of_any {v : Value} (hL : L.length ≤ 256) (hK : KidsK w v L) :
    Calls Tryz.prog 84 #[.agg #[.int .i64 k, .string ⟨#[]⟩, .string ⟨#[]⟩, .string pt, .slice ya yn yc, .slice za zn zc], v, .int .i64 k'] w fun e w' => ∃ ya' yc' za' zc', e = .returned (.agg #[.int .i64 k', .string ⟨#[]⟩, .string ⟨#[]⟩, .string pt, .slice ya' L.length yc', .slice za' L.length zc']) ∧
      w'.ownsRow 0 5 1 (.slice ya' L.length yc') L.length (bytesL L) ∧ w'.ownsRow 0 30 2 (.slice za' L.length zc') L.length (kidsL L) ∧ Below w.heap.size w w' := by
  rcases hK with ⟨x, r, rfl, h⟩ | ⟨x, gr, gu, r, rfl, h⟩
  · exact of_few x r hL h
  · exact of_many x gr gu r h
end
end Go.Proofs.YtnngicopphiaaaaGreatDoor.O
