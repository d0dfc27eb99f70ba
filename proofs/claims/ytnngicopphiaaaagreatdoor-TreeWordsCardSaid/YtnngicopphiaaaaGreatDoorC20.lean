/- Part 20 of 51 of a proof: lemmas on the functions that it reaches. -/
import Derived.Test.YtnngicopphiaaaaGreatDoorC19
namespace Go.Proofs.YtnngicopphiaaaaGreatDoor.O
set_option maxRecDepth 8000
open Go.ChangeShapes Go.WideShapes Go.ChangeAt Go.RowKit Go.Burg
section
variable {w w' : World} {k : Nat} {pt : ByteArray} {ya za : Option Addr} {yn yc zn zc : Nat} {L : List Kd}
set_option maxRecDepth 20000 in
set_option maxHeartbeats 4000000 in
theorem Add_at (y s g : Int) (a : Bool) (hkd : (⟨y, s, g⟩ : Kd).ok) (hf : findK L y = none) (hl : zn + 1 ≤ roomOf (max (kOf a k (zn + 1)) k)) (h5 : max (kOf a k (zn + 1)) k ≤ 5) (h : NodeIn w k pt ya yn yc za zn zc L) (hr : RoomsAt w) (hm : MayB k zn pt) :
    Calls Tryz.prog 41 #[(.agg #[.int .i64 k, .string ⟨#[]⟩, .string ⟨#[]⟩, .string pt, .slice ya yn yc, .slice za zn zc]), .int .u8 y, .agg #[.int .i64 s, .int .u32 g], .bool a] w fun e w' => ∃ cs, e = .returned (.tuple #[.agg cs, .int .i64 0]) ∧ OfG (kOf a k (zn + 1)) pt (insK L ⟨y, s, g⟩).length (insK L ⟨y, s, g⟩) w' cs ∧ Below w.heap.size w w' := by
  have hnf : ∀ (w : World) (b : Nat), (nilAhead 369 195 (.pointer (some ⟨b, 0, none⟩)) "Put").run Tryz.prog w = .ok (some false) w := fun w b => by kernel_rfl
  have hnm : ∀ (w : World) (b : Nat), (nilAhead 369 198 (.pointer (some ⟨b, 0, none⟩)) "Put").run Tryz.prog w = .ok (some false) w := fun w b => by kernel_rfl
  have hmt : ∀ (w : World) (b : Nat), (method 369 195 (.pointer (some ⟨b, 0, none⟩)) "Put").run Tryz.prog w = .ok (170, .pointer (some ⟨b, 0, none⟩)) w := fun w b => by kernel_rfl
  have hmu : ∀ (w : World) (b : Nat), (method 369 198 (.pointer (some ⟨b, 0, none⟩)) "Put").run Tryz.prog w = .ok (185, .pointer (some ⟨b, 0, none⟩)) w := fun w b => by kernel_rfl
  have hs1 : (w.alloc (.cells #[.int .i64 k, .string ⟨#[]⟩, .string ⟨#[]⟩, .string pt, .slice ya yn yc, .slice za zn zc] 53 (0, 0))).heap.size = w.heap.size + 1 := by simp
  have hs2 : ((w.alloc (.cells #[.int .i64 k, .string ⟨#[]⟩, .string ⟨#[]⟩, .string pt, .slice ya yn yc, .slice za zn zc] 53 (0, 0))).alloc (.cells #[.int .i64 s, .int .u32 g] 30 (0, 0))).heap.size = w.heap.size + 1 + 1 := by simp
  have hs3 : (((w.alloc (.cells #[.int .i64 k, .string ⟨#[]⟩, .string ⟨#[]⟩, .string pt, .slice ya yn yc, .slice za zn zc] 53 (0, 0))).alloc (.cells #[.int .i64 s, .int .u32 g] 30 (0, 0))).alloc (.cells #[.int .i64 0, .string ⟨#[]⟩, .string ⟨#[]⟩, .string ⟨#[]⟩, .slice none 0 0, .slice none 0 0] 53 (0, 0))).heap.size = w.heap.size + 1 + 1 + 1 := by simp
  have b0 := blk_alloc2 (o' := (.cells #[.int .i64 k, .string ⟨#[]⟩, .string ⟨#[]⟩, .string pt, .slice ya yn yc, .slice za zn zc] 136 (0, 0))) (blk_alloc2 (o' := (.cells #[.int .i64 0, .string ⟨#[]⟩, .string ⟨#[]⟩, .string ⟨#[]⟩, .slice none 0 0, .slice none 0 0] 53 (0, 0))) (blk_alloc2 (o' := (.cells #[.int .i64 s, .int .u32 g] 30 (0, 0))) (heap_new w (.cells #[.int .i64 k, .string ⟨#[]⟩, .string ⟨#[]⟩, .string pt, .slice ya yn yc, .slice za zn zc] 53 (0, 0)))))
  have b1 := blk_alloc2 (o' := (.cells #[.int .i64 k, .string ⟨#[]⟩, .string ⟨#[]⟩, .string pt, .slice ya yn yc, .slice za zn zc] 136 (0, 0))) (blk_alloc2 (o' := (.cells #[.int .i64 0, .string ⟨#[]⟩, .string ⟨#[]⟩, .string ⟨#[]⟩, .slice none 0 0, .slice none 0 0] 53 (0, 0))) (heap_new (w.alloc (.cells #[.int .i64 k, .string ⟨#[]⟩, .string ⟨#[]⟩, .string pt, .slice ya yn yc, .slice za zn zc] 53 (0, 0))) (.cells #[.int .i64 s, .int .u32 g] 30 (0, 0))))
  have b2 := blk_alloc2 (o' := (.cells #[.int .i64 k, .string ⟨#[]⟩, .string ⟨#[]⟩, .string pt, .slice ya yn yc, .slice za zn zc] 136 (0, 0))) (heap_new ((w.alloc (.cells #[.int .i64 k, .string ⟨#[]⟩, .string ⟨#[]⟩, .string pt, .slice ya yn yc, .slice za zn zc] 53 (0, 0))).alloc (.cells #[.int .i64 s, .int .u32 g] 30 (0, 0))) (.cells #[.int .i64 0, .string ⟨#[]⟩, .string ⟨#[]⟩, .string ⟨#[]⟩, .slice none 0 0, .slice none 0 0] 53 (0, 0)))
  have b3 := heap_new (((w.alloc (.cells #[.int .i64 k, .string ⟨#[]⟩, .string ⟨#[]⟩, .string pt, .slice ya yn yc, .slice za zn zc] 53 (0, 0))).alloc (.cells #[.int .i64 s, .int .u32 g] 30 (0, 0))).alloc (.cells #[.int .i64 0, .string ⟨#[]⟩, .string ⟨#[]⟩, .string ⟨#[]⟩, .slice none 0 0, .slice none 0 0] 53 (0, 0))) (.cells #[.int .i64 k, .string ⟨#[]⟩, .string ⟨#[]⟩, .string pt, .slice ya yn yc, .slice za zn zc] 136 (0, 0))
  rw [hs1] at b1
  rw [hs2] at b2
  rw [hs3] at b3
  have hB : Below w.heap.size w ((((w.alloc (.cells #[.int .i64 k, .string ⟨#[]⟩, .string ⟨#[]⟩, .string pt, .slice ya yn yc, .slice za zn zc] 53 (0, 0))).alloc (.cells #[.int .i64 s, .int .u32 g] 30 (0, 0))).alloc (.cells #[.int .i64 0, .string ⟨#[]⟩, .string ⟨#[]⟩, .string ⟨#[]⟩, .slice none 0 0, .slice none 0 0] 53 (0, 0))).alloc (.cells #[.int .i64 k, .string ⟨#[]⟩, .string ⟨#[]⟩, .string pt, .slice ya yn yc, .slice za zn zc] 136 (0, 0))) := ((((Below.refl _ _).alloc (Nat.le_refl _) _).alloc (by simp) _).alloc (by simp; omega) _).alloc (by simp; omega) _
  have HM := hid (may_at (h.keep hB) (hr.keep hB) hm)
  have HR0 := hid hr
  have HI0 := hid h
  have HF := hid hf
  have HKD := hid hkd
  clear h hr hm hf hkd
  go_enter Tryz.func41, Tryz.ntmps41
  go_wp2_with fail
  have hK2 := HI0.out.k2
  generalize hWl : ((((w.alloc (.cells #[.int .i64 k, .string ⟨#[]⟩, .string ⟨#[]⟩, .string pt, .slice ya yn yc, .slice za zn zc] 53 (0, 0))).alloc (.cells #[.int .i64 s, .int .u32 g] 30 (0, 0))).alloc (.cells #[.int .i64 0, .string ⟨#[]⟩, .string ⟨#[]⟩, .string ⟨#[]⟩, .slice none 0 0, .slice none 0 0] 53 (0, 0))).alloc (.cells #[.int .i64 k, .string ⟨#[]⟩, .string ⟨#[]⟩, .string pt, .slice ya yn yc, .slice za zn zc] 136 (0, 0))) = Wl at *
  generalize hu : w.heap.size = u at *
  refine HM.out.mono ?_
  rintro e w2 ⟨rfl, hB2⟩
  have H0 := hid ((hB2.block _ (lt_of_block b0)).trans b0)
  have H1 := hid ((hB2.block _ (lt_of_block b1)).trans b1)
  have H2 := hid ((hB2.block _ (lt_of_block b2)).trans b2)
  have H3 := hid ((hB2.block _ (lt_of_block b3)).trans b3)
  have hbb := hB.trans (hB2.mono (by have := hB.size; omega))
  have HU := hid hu
  have HKA := hid (kid_at s g w2 HKD.out.2.1 HKD.out.2.2.1)
  have r0 := cell_of H1.out 0
  have r1 := cell_of H1.out 1
  have HBB := hid hbb
  clear hB2 hB b0 b1 b2 b3 HM hWl hs1 hs2 hs3 hu hbb
  go_wp2_with (first | (go_at_call 80; refine HKA.out.mono ?_; rintro e w3 ⟨rfl, hB3⟩; go_loud (have hB3' := HBB.out.trans (hB3.mono (by have := HBB.out.size; have := HU.out; omega)); have H0 := hid ((hB3.block _ (lt_of_block H0.out)).trans H0.out); have H1 := hid ((hB3.block _ (lt_of_block H1.out)).trans H1.out); have H2 := hid ((hB3.block _ (lt_of_block H2.out)).trans H2.out); have H3 := hid ((hB3.block _ (lt_of_block H3.out)).trans H3.out); have HBB := hid hB3'; have HLT := hid (lt_of_block H2.out); have HLT3 := hid (lt_of_block H3.out); have HR2 := hid (HR0.out.keep (by rw [HU.out]; exact HBB.out)); clear hB3 hB3' r0 r1 HKA; have z2 : zn ≤ 256 := (by have := own_len HI0.out.z; have := HI0.out.room; omega); have q5 := cell_of H0.out 5; have p0 := cell_of H3.out 0; have p1 := cell_of H3.out 1; have p2 := cell_of H3.out 2; have p3 := cell_of H3.out 3; have p4 := cell_of H3.out 4; have p5 := cell_of H3.out 5; have HKI := hid (kind_at (k := k) (pt := pt) (ya := ya) (yn := yn) (yc := yc) (za := za) (zn := zn) (zc := zc) (zn + 1) a w3 HR2.out (by omega)); have ez : ((zn + 1 : Nat) : Int) = (zn : Int) + 1 := (by omega); rw [ez] at HKI; clear ez)) | (go_at_call 81; refine HKI.out.mono ?_; rintro e w4 ⟨rfl, hB4⟩))
  generalize hk1 : kOf a k (zn + 1) = k1 at *
  have HK1 := hid hk1
  clear hk1
  have hB4' := HBB.out.trans (hB4.mono (by have := HBB.out.size; have := HU.out; omega))
  have H0 := hid ((hB4.block _ (lt_of_block H0.out)).trans H0.out)
  have H1 := hid ((hB4.block _ (lt_of_block H1.out)).trans H1.out)
  have H2 := hid ((hB4.block _ (lt_of_block H2.out)).trans H2.out)
  have H3 := hid ((hB4.block _ (lt_of_block H3.out)).trans H3.out)
  have HBB := hid hB4'
  have HLT := hid (lt_of_block H2.out)
  have HLT3 := hid (lt_of_block H3.out)
  have HR2 := hid (HR0.out.keep (by rw [HU.out]; exact HBB.out))
  have HL := hid hl
  have H5 := hid h5
  clear hB4 hB4' HKI p0 p1 p2 p3 p4 p5 q5 hl h5
  refine wp_region_val 7 (LJ w4 (u + 1 + 1) 6 99 L (roomOf (max k1 k)) [0, 1, 2, 3, 4, 5] (fun j => ([(.agg #[.int .i64 k, .string ⟨#[]⟩, .string ⟨#[]⟩, .string pt, .slice ya yn yc, .slice za zn zc]), .int .i64 k1, .pointer (some ⟨u, 0, none⟩), .int .i64 k, .int .i64 (max k1 k : Nat), .int .i64 (roomOf (max k1 k))] : List Value)[j]?.getD undef) (.cells #[.int .i64 0, .string ⟨#[]⟩, .string ⟨#[]⟩, .string ⟨#[]⟩, .slice none 0 0, .slice none 0 0] 53 (0, 0)) (.cells #[.int .i64 0, .string ⟨#[]⟩, .string ⟨#[]⟩, .string ⟨#[]⟩, .slice none 0 0, .slice none 0 0] 53 (0, 0))) (by kernel_rfl) (by kernel_rfl) (by kernel_rfl) ?h0 ?hs ?hend
  case h0 => exact LJ.start H2.out
  case hs =>
    dsimp only [List.take, AllOpsI, dsts, fill]
    refine ⟨?_, ?_, ?_, ?_, ?_, ?_, ?_⟩
    · intro D xs w1 hDk hwt hJ
      skip
      have hk0 := (hJ.m.block u (lt_of_block H0.out) (by show ¬ u = u + 1 + 1; omega)).trans H0.out
      have hk2 := (hJ.m.block (u + 1 + 1 + 1) (lt_of_block H3.out) (by show ¬ u + 1 + 1 + 1 = u + 1 + 1; omega)).trans H3.out
      have q0 := cell_of hk0 0
      have p0 := cell_of hk2 0
      have p1 := cell_of hk2 1
      have p2 := cell_of hk2 2
      have p3 := cell_of hk2 3
      have p4 := cell_of hk2 4
      have p5 := cell_of hk2 5
      have HJ := hid hJ
      clear hDk hwt hJ hk0 hk2
      go_wp2_with fail
      first | exact ⟨(.agg #[.int .i64 k, .string ⟨#[]⟩, .string ⟨#[]⟩, .string pt, .slice ya yn yc, .slice za zn zc]), by kernel_rfl, fun q hq => by obtain rfl := hq rfl; exact HJ.out.calm HLT.out (by decide) (by decide) (fun _ => rfl) (Below.refl _ _)⟩ | exact ⟨(.agg #[.int .i64 k, .string ⟨#[]⟩, .string ⟨#[]⟩, .string pt, .slice ya yn yc, .slice za zn zc]), by kernel_rfl, HJ.out.calm HLT.out (by decide) (by decide) (fun _ => rfl) (Below.refl _ _)⟩
    · intro D xs w1 hDk hwt hJ
      skip
      have hk0 := (hJ.m.block u (lt_of_block H0.out) (by show ¬ u = u + 1 + 1; omega)).trans H0.out
      have hk2 := (hJ.m.block (u + 1 + 1 + 1) (lt_of_block H3.out) (by show ¬ u + 1 + 1 + 1 = u + 1 + 1; omega)).trans H3.out
      have q0 := cell_of hk0 0
      have p0 := cell_of hk2 0
      have p1 := cell_of hk2 1
      have p2 := cell_of hk2 2
      have p3 := cell_of hk2 3
      have p4 := cell_of hk2 4
      have p5 := cell_of hk2 5
      have HJ := hid hJ
      clear hDk hwt hJ hk0 hk2
      go_wp2_with fail
      first | exact ⟨.int .i64 k1, by kernel_rfl, fun q hq => by obtain rfl := hq rfl; exact HJ.out.calm HLT.out (by decide) (by decide) (fun _ => rfl) (Below.refl _ _)⟩ | exact ⟨.int .i64 k1, by kernel_rfl, HJ.out.calm HLT.out (by decide) (by decide) (fun _ => rfl) (Below.refl _ _)⟩
    · intro D xs w1 hDk hwt hJ
      skip
      have hk0 := (hJ.m.block u (lt_of_block H0.out) (by show ¬ u = u + 1 + 1; omega)).trans H0.out
      have hk2 := (hJ.m.block (u + 1 + 1 + 1) (lt_of_block H3.out) (by show ¬ u + 1 + 1 + 1 = u + 1 + 1; omega)).trans H3.out
      have q0 := cell_of hk0 0
      have p0 := cell_of hk2 0
      have p1 := cell_of hk2 1
      have p2 := cell_of hk2 2
      have p3 := cell_of hk2 3
      have p4 := cell_of hk2 4
      have p5 := cell_of hk2 5
      have HJ := hid hJ
      clear hDk hwt hJ hk0 hk2
      go_wp2_with fail
      first | exact ⟨.pointer (some ⟨u, 0, none⟩), by kernel_rfl, fun q hq => by obtain rfl := hq rfl; exact HJ.out.calm HLT.out (by decide) (by decide) (fun _ => rfl) (Below.refl _ _)⟩ | exact ⟨.pointer (some ⟨u, 0, none⟩), by kernel_rfl, HJ.out.calm HLT.out (by decide) (by decide) (fun _ => rfl) (Below.refl _ _)⟩
    · intro D xs w1 hDk hwt hJ
      have ee : xs 2 = .pointer (some ⟨u, 0, none⟩) := hJ.v 2 (hwt 2 (List.mem_of_elem_eq_true (by kernel_rfl))) (by decide)
      rw [ee]
      clear ee
      have hk0 := (hJ.m.block u (lt_of_block H0.out) (by show ¬ u = u + 1 + 1; omega)).trans H0.out
      have hk2 := (hJ.m.block (u + 1 + 1 + 1) (lt_of_block H3.out) (by show ¬ u + 1 + 1 + 1 = u + 1 + 1; omega)).trans H3.out
      have q0 := cell_of hk0 0
      have p0 := cell_of hk2 0
      have p1 := cell_of hk2 1
      have p2 := cell_of hk2 2
      have p3 := cell_of hk2 3
      have p4 := cell_of hk2 4
      have p5 := cell_of hk2 5
      have HJ := hid hJ
      clear hDk hwt hJ hk0 hk2
      go_wp2_with fail
      first | exact ⟨.int .i64 k, by kernel_rfl, fun q hq => by obtain rfl := hq rfl; exact HJ.out.calm HLT.out (by decide) (by decide) (fun _ => rfl) (Below.refl _ _)⟩ | exact ⟨.int .i64 k, by kernel_rfl, HJ.out.calm HLT.out (by decide) (by decide) (fun _ => rfl) (Below.refl _ _)⟩
    · intro D xs w1 hDk hwt hJ
      have ee : xs 1 = .int .i64 k1 := hJ.v 1 (hwt 1 (List.mem_of_elem_eq_true (by kernel_rfl))) (by decide)
      rw [ee]
      clear ee
      have ee : xs 3 = .int .i64 k := hJ.v 3 (hwt 3 (List.mem_of_elem_eq_true (by kernel_rfl))) (by decide)
      rw [ee]
      clear ee
      have HJ := hid hJ
      clear hDk hwt hJ
      go_wp2_with fail
      all_goals first
        | (have em : max k1 k = k := by omega
           exact ⟨.int .i64 k, by kernel_rfl, HJ.out.calm (u := .int .i64 k) HLT.out (by decide) (by decide) (fun _ => by show Value.int .i64 (k : Int) = Value.int .i64 ((max k1 k : Nat) : Int); rw [em]) (Below.refl _ _)⟩)
        | (have em : max k1 k = k1 := by omega
           exact ⟨.int .i64 k1, by kernel_rfl, HJ.out.calm (u := .int .i64 k1) HLT.out (by decide) (by decide) (fun _ => by show Value.int .i64 (k1 : Int) = Value.int .i64 ((max k1 k : Nat) : Int); rw [em]) (Below.refl _ _)⟩)
    · intro D xs w1 hDk hwt hJ
      have ee : xs 4 = .int .i64 (max k1 k : Nat) := hJ.v 4 (hwt 4 (List.mem_of_elem_eq_true (by kernel_rfl))) (by decide)
      rw [ee]
      clear ee
      have HRM := hid (room_at (max k1 k) H5.out w1 (HR2.out.same (hJ.m.block 0 HR2.out.lt (by show ¬ 0 = u + 1 + 1; omega))))
      have HJ := hid hJ
      clear hDk hwt hJ
      go_wp2_with (go_at_call 83; refine HRM.out.mono ?_; rintro e w3 ⟨rfl, rfl⟩)
      first | exact ⟨.int .i64 (roomOf (max k1 k)), by kernel_rfl, fun q hq => by obtain rfl := hq rfl; exact HJ.out.calm HLT.out (by decide) (by decide) (fun _ => rfl) (Below.refl _ _)⟩ | exact ⟨.int .i64 (roomOf (max k1 k)), by kernel_rfl, HJ.out.calm HLT.out (by decide) (by decide) (fun _ => rfl) (Below.refl _ _)⟩
    · intro D xs w1 hDk hwt hJ
      have ee : xs 0 = (.agg #[.int .i64 k, .string ⟨#[]⟩, .string ⟨#[]⟩, .string pt, .slice ya yn yc, .slice za zn zc]) := hJ.v 0 (hwt 0 (List.mem_of_elem_eq_true (by kernel_rfl))) (by decide)
      rw [ee]
      clear ee
      have ee : xs 5 = .int .i64 (roomOf (max k1 k)) := hJ.v 5 (hwt 5 (List.mem_of_elem_eq_true (by kernel_rfl))) (by decide)
      rw [ee]
      clear ee
      have hb1 : Below w.heap.size w w1 := by
        rw [HU.out]
        exact HBB.out.trans ⟨hJ.m.os, hJ.m.tape, hJ.m.output, hJ.m.size, fun i hi => hJ.m.block i (by have := HLT.out; omega) (by show ¬ i = u + 1 + 1; omega)⟩
      have HLD := hid (laid_at (roomOf (max k1 k)) (HI0.out.keep hb1) (roomOf_four (k := max k1 k) (by have := HI0.out.k1; omega) H5.out) (by have := HL.out; have := own_len HI0.out.z; omega))
      have HJ := hid hJ
      clear hDk hwt hJ hb1
      go_wp2_with (go_at_call 82; refine HLD.out.mono ?_; rintro e w3 ⟨v, rfl, hK, hb⟩)
      exact ⟨v, by kernel_rfl, fun q hq => by obtain rfl := hq rfl; exact HJ.out.laid (by decide) (by decide) hK hb⟩
  case hend =>
    intro D xs w7 hD hJ
    dsimp only [List.take, dsts, fill, List.drop]
    have hK := hJ.l (hD 6 (by omega))
    have hM := hJ.m
    have hbl : True ∨ True := .inr trivial
    generalize xs 6 = v4 at *
    clear hbl
    have hb4 : Below u w w7 := HBB.out.trans ⟨hM.os, hM.tape, hM.output, hM.size, fun i hi => hM.block i (by have := HLT.out; omega) (by show ¬ i = u + 1 + 1; omega)⟩
    have h0 := (hM.block u (lt_of_block H0.out) (by show ¬ u = u + 1 + 1; omega)).trans H0.out
    have h1 := (hM.block (u + 1) (lt_of_block H1.out) (by show ¬ u + 1 = u + 1 + 1; omega)).trans H1.out
    have h3 := (hM.block (u + 1 + 1 + 1) (lt_of_block H3.out) (by show ¬ u + 1 + 1 + 1 = u + 1 + 1; omega)).trans H3.out
    have h2 := hJ.c
    simp only [Bool.cond_self] at h2
    have r0 := cell_of h1 0
    have r1 := cell_of h1 1
    have G0 := hid h0
    have G2 := hid h2
    have G3 := hid h3
    have HB7 := hid hb4
    clear hD hJ hM h0 h1 h2 h3 hb4 H0 H1 H2 H3 HBB
    have HLR : Hid (L.length < roomOf (max k1 k)) := hid (by have := HL.out; have := own_len HI0.out.z; omega)
    rcases hK with ⟨x, hx, rfl, hF⟩ | ⟨x, gr, gu, hx, rfl, hF⟩
    · have HT := hid (F.fPut_L ⟨y, s, g⟩ w7 hF HF.out HLR.out)
      clear hF
      have hS : ∀ i, i < u + 1 + 1 + 1 + 1 → ¬ i = x := fun i hi => by have := HLT3.out; omega
      go_wp2_with (first | (go_at_call 170; refine HT.out.mono ?_; rintro e w5 ⟨rfl, hF5, hM5⟩; go_loud (have hb5 : Below u w w5 := HB7.out.trans ⟨hM5.os, hM5.tape, hM5.output, hM5.size, fun i hi => hM5.block i (by have := lt_of_block G0.out; omega) (hS i (by omega))⟩; have h0 := (hM5.block u (lt_of_block G0.out) (hS u (by omega))).trans G0.out; have h2 := (hM5.block (u + 1 + 1) (lt_of_block G2.out) (hS _ (by omega))).trans G2.out; have h3 := (hM5.block (u + 1 + 1 + 1) (lt_of_block G3.out) (hS _ (by omega))).trans G3.out; have q0 := cell_of h0 0; have p0 := cell_of h3 0; have p1 := cell_of h3 1; have p2 := cell_of h3 2; have p3 := cell_of h3 3; have p4 := cell_of h3 4; have p5 := cell_of h3 5; have HOF := hid (of_any (w := w5) (k := k) (k' := k1) (pt := pt) (ya := ya) (yn := yn) (yc := yc) (za := za) (zn := zn) (zc := zc) (L := insK L ⟨y, s, g⟩) (by rw [insK_len]; have := HL.out; have := own_len HI0.out.z; have := roomOf_four (k := max k1 k) (by have := HI0.out.k1; omega) H5.out; omega) (.inl ⟨x, roomOf (max k1 k), rfl, hF5⟩)); have G2b := hid h2; have HB5 := hid hb5; clear hF5 hM5 hb5 h0 h2 h3 HT)) | (go_at_call 84; refine HOF.out.mono ?_; rintro e w6 ⟨ya', yc', za', zc', rfl, oy, oz, hB6⟩; go_loud (have h2 := (hB6.block _ (lt_of_block G2b.out)).trans G2b.out; have t0 := cell_of h2 0; have t1 := cell_of h2 1; have t2 := cell_of h2 2; have t3 := cell_of h2 3; have t4 := cell_of h2 4; have t5 := cell_of h2 5; have tf := free_of h2; have G2c := hid h2; have OY := hid oy; have OZ := hid oz; have HB6 := hid (HB5.out.trans (hB6.mono (by have := HB5.out.size; have := HU.out; omega))); clear h2 oy oz hB6 HOF)))
      obtain ⟨l1, l2⟩ := set6_at (.int .i64 k1) (.string ⟨#[]⟩) (.string ⟨#[]⟩) (.string pt) (.slice ya' (insK L ⟨y, s, g⟩).length yc') (.slice za' (insK L ⟨y, s, g⟩).length zc') G2c.out
      obtain ⟨fs, hus⟩ : ∃ fs, Tryz.prog.underlying 53 = some (.struct fs) := ⟨_, rfl⟩
      refine bodyPost_ret (results_ct (p := 8) (u := 9) (ty := 53) rfl _ _ (u + 1 + 1) _ _ _ _ (by kernel_rfl) l1 hus rfl (by kernel_rfl)) (by kernel_rfl) ⟨#[.int .i64 k1, .string ⟨#[]⟩, .string ⟨#[]⟩, .string pt, .slice ya' (insK L ⟨y, s, g⟩).length yc', .slice za' (insK L ⟨y, s, g⟩).length zc'], by kernel_rfl, ⟨ya', yc', za', zc', by rw [HK1.out], own_mod OY.out l2 (own_off OY.out G2c.out (by decide)), own_mod OZ.out l2 (own_off OZ.out G2c.out (by decide))⟩, ?_⟩
      rw [HU.out]
      exact HB6.out.trans ⟨l2.os, l2.tape, l2.output, l2.size, fun i hi => l2.block i (by have := lt_of_block G2c.out; omega) (by show ¬ i = u + 1 + 1; omega)⟩
    · have HT := hid (M.put_L ⟨y, s, g⟩ HLR.out hF HKD.out.1 HF.out)
      clear hF
      have hS : ∀ i, i < u + 1 + 1 + 1 + 1 → ¬ MOwn x gr gu i := fun i hi => by have := HLT3.out; rintro (e | e | e) <;> omega
      go_wp2_with (first | (go_at_call 185; refine HT.out.mono ?_; rintro e w5 ⟨rfl, hF5, hM5⟩; go_loud (have hb5 : Below u w w5 := HB7.out.trans ⟨hM5.os, hM5.tape, hM5.output, hM5.size, fun i hi => hM5.block i (by have := lt_of_block G0.out; omega) (hS i (by omega))⟩; have h0 := (hM5.block u (lt_of_block G0.out) (hS u (by omega))).trans G0.out; have h2 := (hM5.block (u + 1 + 1) (lt_of_block G2.out) (hS _ (by omega))).trans G2.out; have h3 := (hM5.block (u + 1 + 1 + 1) (lt_of_block G3.out) (hS _ (by omega))).trans G3.out; have q0 := cell_of h0 0; have p0 := cell_of h3 0; have p1 := cell_of h3 1; have p2 := cell_of h3 2; have p3 := cell_of h3 3; have p4 := cell_of h3 4; have p5 := cell_of h3 5; have HOF := hid (of_any (w := w5) (k := k) (k' := k1) (pt := pt) (ya := ya) (yn := yn) (yc := yc) (za := za) (zn := zn) (zc := zc) (L := insK L ⟨y, s, g⟩) (by rw [insK_len]; have := HL.out; have := own_len HI0.out.z; have := roomOf_four (k := max k1 k) (by have := HI0.out.k1; omega) H5.out; omega) (.inr ⟨x, gr, gu, roomOf (max k1 k), rfl, ⟨by obtain ⟨M, h1, h2⟩ := hF5.m; exact ⟨M, h1, h2.l⟩⟩⟩)); have G2b := hid h2; have HB5 := hid hb5; clear hF5 hM5 hb5 h0 h2 h3 HT)) | (go_at_call 84; refine HOF.out.mono ?_; rintro e w6 ⟨ya', yc', za', zc', rfl, oy, oz, hB6⟩; go_loud (have h2 := (hB6.block _ (lt_of_block G2b.out)).trans G2b.out; have t0 := cell_of h2 0; have t1 := cell_of h2 1; have t2 := cell_of h2 2; have t3 := cell_of h2 3; have t4 := cell_of h2 4; have t5 := cell_of h2 5; have tf := free_of h2; have G2c := hid h2; have OY := hid oy; have OZ := hid oz; have HB6 := hid (HB5.out.trans (hB6.mono (by have := HB5.out.size; have := HU.out; omega))); clear h2 oy oz hB6 HOF)))
      obtain ⟨l1, l2⟩ := set6_at (.int .i64 k1) (.string ⟨#[]⟩) (.string ⟨#[]⟩) (.string pt) (.slice ya' (insK L ⟨y, s, g⟩).length yc') (.slice za' (insK L ⟨y, s, g⟩).length zc') G2c.out
      obtain ⟨fs, hus⟩ : ∃ fs, Tryz.prog.underlying 53 = some (.struct fs) := ⟨_, rfl⟩
      refine bodyPost_ret (results_ct (p := 8) (u := 9) (ty := 53) rfl _ _ (u + 1 + 1) _ _ _ _ (by kernel_rfl) l1 hus rfl (by kernel_rfl)) (by kernel_rfl) ⟨#[.int .i64 k1, .string ⟨#[]⟩, .string ⟨#[]⟩, .string pt, .slice ya' (insK L ⟨y, s, g⟩).length yc', .slice za' (insK L ⟨y, s, g⟩).length zc'], by kernel_rfl, ⟨ya', yc', za', zc', by rw [HK1.out], own_mod OY.out l2 (own_off OY.out G2c.out (by decide)), own_mod OZ.out l2 (own_off OZ.out G2c.out (by decide))⟩, ?_⟩
      rw [HU.out]
      exact HB6.out.trans ⟨l2.os, l2.tape, l2.output, l2.size, fun i hi => l2.block i (by have := lt_of_block G2c.out; omega) (by show ¬ i = u + 1 + 1; omega)⟩
end
end Go.Proofs.YtnngicopphiaaaaGreatDoor.O

namespace Go.Proofs.YtnngicopphiaaaaGreatDoor.O
set_option maxRecDepth 8000
open Go.ChangeShapes Go.WideShapes Go.ChangeAt Go.RowKit Go.Burg
theorem kindOf_ok {n : Nat} (h : n ≤ 256) : 2 ≤ kindOf n ∧ kindOf n ≤ 5 ∧ n ≤ roomOf (kindOf n) := by
  unfold kindOf
  split
  · exact ⟨by omega, by omega, by simp [roomOf]; omega⟩
  · split
    · exact ⟨by omega, by omega, by simp [roomOf]; omega⟩
    · split
      · exact ⟨by omega, by omega, by simp [roomOf]; omega⟩
      · exact ⟨by omega, by omega, by simp [roomOf]; omega⟩
theorem kOf_ok {a : Bool} {k n : Nat} (h : n ≤ 256) (h1 : 2 ≤ k) (h2 : k ≤ 5) (h3 : a = true → n ≤ roomOf k) : 2 ≤ kOf a k n ∧ kOf a k n ≤ 5 ∧ n ≤ roomOf (kOf a k n) := by
  cases a
  · exact kindOf_ok h
  · exact ⟨h1, h2, h3 rfl⟩
theorem insK_ok {L : List Kd} {z : Kd} (h : ∀ x ∈ L, x.ok) (hz : z.ok) : ∀ x ∈ insK L z, x.ok := by
  intro x hx
  rw [insK_eq] at hx
  rcases List.mem_append.1 hx with hx | hx
  · exact h x (List.mem_of_mem_take hx)
  · rcases List.mem_cons.1 hx with rfl | hx
    · exact hz
    · exact h x (List.mem_of_mem_drop hx)
theorem OfG.node {k : Nat} {pt : ByteArray} {L : List Kd} {w : World} {cs : Array Value} (h : OfG k pt L.length L w cs) (h1 : 2 ≤ k) (h2 : k ≤ 5) (hp : pt.size ≤ 34) (hl : L.length ≤ roomOf k) (hr : Rise L) (ho : ∀ x ∈ L, x.ok) :
    ∃ ya yc za zc, cs = #[.int .i64 k, .string ⟨#[]⟩, .string ⟨#[]⟩, .string pt, .slice ya L.length yc, .slice za L.length zc] ∧ NodeIn w k pt ya L.length yc za L.length zc L := by
  obtain ⟨ya, yc, za, zc, e, a, b⟩ := h
  exact ⟨ya, yc, za, zc, e, ⟨a, b, h1, h2, hp, hl, hr, ho⟩⟩
end Go.Proofs.YtnngicopphiaaaaGreatDoor.O
