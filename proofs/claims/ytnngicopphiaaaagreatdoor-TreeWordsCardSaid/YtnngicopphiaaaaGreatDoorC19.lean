/- Part 19 of 51 of a proof: lemmas on the functions that it reaches. -/
import Derived.Test.YtnngicopphiaaaaGreatDoorC18
namespace Go.Proofs.YtnngicopphiaaaaGreatDoor.O
set_option maxRecDepth 8000
open Go.ChangeShapes Go.WideShapes Go.ChangeAt Go.RowKit Go.Burg
section
variable {w w' : World} {k : Nat} {pt : ByteArray} {ya za : Option Addr} {yn yc zn zc : Nat} {L : List Kd}
set_option maxRecDepth 20000 in
set_option maxHeartbeats 4000000 in
theorem Turn_at (y s g : Int) (kk : Kd) (hkd : (⟨y, s, g⟩ : Kd).ok) (hf : findK L y = some kk) (h : NodeIn w k pt ya yn yc za zn zc L) (hr : RoomsAt w) (hm : MayB k zn pt) :
    Calls Tryz.prog 85 #[(.agg #[.int .i64 k, .string ⟨#[]⟩, .string ⟨#[]⟩, .string pt, .slice ya yn yc, .slice za zn zc]), .int .u8 y, .agg #[.int .i64 s, .int .u32 g]] w fun e w' => ∃ ya' yc' za' zc', e = .returned (.tuple #[.agg #[.int .i64 k, .string ⟨#[]⟩, .string ⟨#[]⟩, .string pt, .slice ya' L.length yc', .slice za' L.length zc'], .int .i64 0]) ∧
      NodeIn w' k pt ya' L.length yc' za' L.length zc' (turnK L y s g) ∧ Below w.heap.size w w' := by
  have hnf : ∀ (w : World) (b : Nat), (nilAhead 369 195 (.pointer (some ⟨b, 0, none⟩)) "Turn").run Tryz.prog w = .ok (some false) w := fun w b => by kernel_rfl
  have hnm : ∀ (w : World) (b : Nat), (nilAhead 369 198 (.pointer (some ⟨b, 0, none⟩)) "Turn").run Tryz.prog w = .ok (some false) w := fun w b => by kernel_rfl
  have hmt : ∀ (w : World) (b : Nat), (method 369 195 (.pointer (some ⟨b, 0, none⟩)) "Turn").run Tryz.prog w = .ok (172, .pointer (some ⟨b, 0, none⟩)) w := fun w b => by kernel_rfl
  have hmu : ∀ (w : World) (b : Nat), (method 369 198 (.pointer (some ⟨b, 0, none⟩)) "Turn").run Tryz.prog w = .ok (187, .pointer (some ⟨b, 0, none⟩)) w := fun w b => by kernel_rfl
  have hs1 : (w.alloc (.cells #[.int .i64 k, .string ⟨#[]⟩, .string ⟨#[]⟩, .string pt, .slice ya yn yc, .slice za zn zc] 53 (0, 0))).heap.size = w.heap.size + 1 := by simp
  have hs2 : ((w.alloc (.cells #[.int .i64 k, .string ⟨#[]⟩, .string ⟨#[]⟩, .string pt, .slice ya yn yc, .slice za zn zc] 53 (0, 0))).alloc (.cells #[.int .i64 s, .int .u32 g] 30 (0, 0))).heap.size = w.heap.size + 1 + 1 := by simp
  have hs3 : (((w.alloc (.cells #[.int .i64 k, .string ⟨#[]⟩, .string ⟨#[]⟩, .string pt, .slice ya yn yc, .slice za zn zc] 53 (0, 0))).alloc (.cells #[.int .i64 s, .int .u32 g] 30 (0, 0))).alloc (.cells #[.int .i64 0, .string ⟨#[]⟩, .string ⟨#[]⟩, .string ⟨#[]⟩, .slice none 0 0, .slice none 0 0] 53 (0, 0))).heap.size = w.heap.size + 1 + 1 + 1 := by simp
  have b0 := blk_alloc2 (o' := (.cells #[.int .i64 k, .string ⟨#[]⟩, .string ⟨#[]⟩, .string pt, .slice ya yn yc, .slice za zn zc] 136 (0, 0))) (blk_alloc2 (o' := (.cells #[.int .i64 0, .string ⟨#[]⟩, .string ⟨#[]⟩, .string ⟨#[]⟩, .slice none 0 0, .slice none 0 0] 53 (0, 0))) (blk_alloc2 (o' := (.cells #[.int .i64 s, .int .u32 g] 30 (0, 0))) (heap_new w (.cells #[.int .i64 k, .string ⟨#[]⟩, .string ⟨#[]⟩, .string pt, .slice ya yn yc, .slice za zn zc] 53 (0, 0)))))
  have b1 := blk_alloc2 (o' := (.cells #[.int .i64 k, .string ⟨#[]⟩, .string ⟨#[]⟩, .string pt, .slice ya yn yc, .slice za zn zc] 136 (0, 0))) (blk_alloc2 (o' := (.cells #[.int .i64 0, .string ⟨#[]⟩, .string ⟨#[]⟩, .string ⟨#[]⟩, .slice none 0 0, .slice none 0 0] 53 (0, 0))) (heap_new (w.alloc (.cells #[.int .i64 k, .string ⟨#[]⟩, .string ⟨#[]⟩, .string pt, .slice ya yn yc, .slice za zn zc] 53 (0, 0))) (.cells #[.int .i64 s, .int .u32 g] 30 (0, 0))))
  have b2 := blk_alloc2 (o' := (.cells #[.int .i64 k, .string ⟨#[]⟩, .string ⟨#[]⟩, .string pt, .slice ya yn yc, .slice za zn zc] 136 (0, 0))) (heap_new ((w.alloc (.cells #[.int .i64 k, .string ⟨#[]⟩, .string ⟨#[]⟩, .string pt, .slice ya yn yc, .slice za zn zc] 53 (0, 0))).alloc (.cells #[.int .i64 s, .int .u32 g] 30 (0, 0))) (.cells #[.int .i64 0, .string ⟨#[]⟩, .string ⟨#[]⟩, .string ⟨#[]⟩, .slice none 0 0, .slice none 0 0] 53 (0, 0)))
  have b3 := heap_new (((w.alloc (.cells #[.int .i64 k, .string ⟨#[]⟩, .string ⟨#[]⟩, .string pt, .slice ya yn yc, .slice za zn zc] 53 (0, 0))).alloc (.cells #[.int .i64 s, .int .u32 g] 30 (0, 0))).alloc (.cells #[.int .i64 0, .string ⟨#[]⟩, .string ⟨#[]⟩, .string ⟨#[]⟩, .slice none 0 0, .slice none 0 0] 53 (0, 0))) (.cells #[.int .i64 k, .string ⟨#[]⟩, .string ⟨#[]⟩, .string pt, .slice ya yn yc, .slice za zn zc] 136 (0, 0))
  rw [hs1] at b1
  rw [hs2] at b2
  rw [hs3] at b3
  have hB : Below w.heap.size w ((((w.alloc (.cells #[.int .i64 k, .string ⟨#[]⟩, .string ⟨#[]⟩, .string pt, .slice ya yn yc, .slice za zn zc] 53 (0, 0))).alloc (.cells #[.int .i64 s, .int .u32 g] 30 (0, 0))).alloc (.cells #[.int .i64 0, .string ⟨#[]⟩, .string ⟨#[]⟩, .string ⟨#[]⟩, .slice none 0 0, .slice none 0 0] 53 (0, 0))).alloc (.cells #[.int .i64 k, .string ⟨#[]⟩, .string ⟨#[]⟩, .string pt, .slice ya yn yc, .slice za zn zc] 136 (0, 0))) := ((((Below.refl _ _).alloc (Nat.le_refl _) _).alloc (by simp) _).alloc (by simp; omega) _).alloc (by simp; omega) _
  have HM := hid (may_at (h.keep hB) (hr.keep hB) hm)
  have HR0 := hid hr
  have HI0 := hid h
  have HF := hid hf
  have HKD := hid hkd
  clear h hr hm hf hkd
  go_enter Tryz.func85, Tryz.ntmps85
  go_wp2_with fail
  have hK2 := HI0.out.k2
  generalize hWl : ((((w.alloc (.cells #[.int .i64 k, .string ⟨#[]⟩, .string ⟨#[]⟩, .string pt, .slice ya yn yc, .slice za zn zc] 53 (0, 0))).alloc (.cells #[.int .i64 s, .int .u32 g] 30 (0, 0))).alloc (.cells #[.int .i64 0, .string ⟨#[]⟩, .string ⟨#[]⟩, .string ⟨#[]⟩, .slice none 0 0, .slice none 0 0] 53 (0, 0))).alloc (.cells #[.int .i64 k, .string ⟨#[]⟩, .string ⟨#[]⟩, .string pt, .slice ya yn yc, .slice za zn zc] 136 (0, 0))) = Wl at *
  generalize hu : w.heap.size = u at *
  refine HM.out.mono ?_
  rintro e w2 ⟨rfl, hB2⟩
  have H0 := hid ((hB2.block _ (lt_of_block b0)).trans b0)
  have H1 := hid ((hB2.block _ (lt_of_block b1)).trans b1)
  have H2 := hid ((hB2.block _ (lt_of_block b2)).trans b2)
  have H3 := hid ((hB2.block _ (lt_of_block b3)).trans b3)
  have hbb := hB.trans (hB2.mono (by have := hB.size; omega))
  have HU := hid hu
  have HKA := hid (kid_at s g w2 HKD.out.2.1 HKD.out.2.2.1)
  have r0 := cell_of H1.out 0
  have r1 := cell_of H1.out 1
  have HBB := hid hbb
  clear hB2 hB b0 b1 b2 b3 HM hWl hs1 hs2 hs3 hu hbb
  go_wp2_with (go_at_call 80; refine HKA.out.mono ?_; rintro e w3 ⟨rfl, hB3⟩)
  have hB3' := HBB.out.trans (hB3.mono (by have := HBB.out.size; have := HU.out; omega))
  have H0 := hid ((hB3.block _ (lt_of_block H0.out)).trans H0.out)
  have H1 := hid ((hB3.block _ (lt_of_block H1.out)).trans H1.out)
  have H2 := hid ((hB3.block _ (lt_of_block H2.out)).trans H2.out)
  have H3 := hid ((hB3.block _ (lt_of_block H3.out)).trans H3.out)
  have HBB := hid hB3'
  have HLT := hid (lt_of_block H2.out)
  have HLT3 := hid (lt_of_block H3.out)
  have HR2 := hid (HR0.out.keep (by rw [HU.out]; exact HBB.out))
  clear hB3 hB3' r0 r1 HKA
  refine wp_region_val 5 (LJ w3 (u + 1 + 1) 4 99 L (roomOf k) [0, 1, 2, 3] (fun j => ([(.agg #[.int .i64 k, .string ⟨#[]⟩, .string ⟨#[]⟩, .string pt, .slice ya yn yc, .slice za zn zc]), .pointer (some ⟨u, 0, none⟩), .int .i64 k, .int .i64 (roomOf k)] : List Value)[j]?.getD undef) (.cells #[.int .i64 0, .string ⟨#[]⟩, .string ⟨#[]⟩, .string ⟨#[]⟩, .slice none 0 0, .slice none 0 0] 53 (0, 0)) (.cells #[.int .i64 0, .string ⟨#[]⟩, .string ⟨#[]⟩, .string ⟨#[]⟩, .slice none 0 0, .slice none 0 0] 53 (0, 0))) (by kernel_rfl) (by kernel_rfl) (by kernel_rfl) ?h0 ?hs ?hend
  case h0 => exact LJ.start H2.out
  case hs =>
    dsimp only [List.take, AllOpsI, dsts, fill]
    refine ⟨?_, ?_, ?_, ?_, ?_⟩
    · intro D xs w1 hDk hwt hJ
      skip
      have hk0 := (hJ.m.block u (lt_of_block H0.out) (by show ¬ u = u + 1 + 1; omega)).trans H0.out
      have hk2 := (hJ.m.block (u + 1 + 1 + 1) (lt_of_block H3.out) (by show ¬ u + 1 + 1 + 1 = u + 1 + 1; omega)).trans H3.out
      have q0 := cell_of hk0 0
      have p0 := cell_of hk2 0
      have p1 := cell_of hk2 1
      have p2 := cell_of hk2 2
      have p3 := cell_of hk2 3
      have p4 := cell_of hk2 4
      have p5 := cell_of hk2 5
      have HJ := hid hJ
      clear hDk hwt hJ hk0 hk2
      go_wp2_with fail
      first | exact ⟨(.agg #[.int .i64 k, .string ⟨#[]⟩, .string ⟨#[]⟩, .string pt, .slice ya yn yc, .slice za zn zc]), by kernel_rfl, fun q hq => by obtain rfl := hq rfl; exact HJ.out.calm HLT.out (by decide) (by decide) (fun _ => rfl) (Below.refl _ _)⟩ | exact ⟨(.agg #[.int .i64 k, .string ⟨#[]⟩, .string ⟨#[]⟩, .string pt, .slice ya yn yc, .slice za zn zc]), by kernel_rfl, HJ.out.calm HLT.out (by decide) (by decide) (fun _ => rfl) (Below.refl _ _)⟩
    · intro D xs w1 hDk hwt hJ
      skip
      have hk0 := (hJ.m.block u (lt_of_block H0.out) (by show ¬ u = u + 1 + 1; omega)).trans H0.out
      have hk2 := (hJ.m.block (u + 1 + 1 + 1) (lt_of_block H3.out) (by show ¬ u + 1 + 1 + 1 = u + 1 + 1; omega)).trans H3.out
      have q0 := cell_of hk0 0
      have p0 := cell_of hk2 0
      have p1 := cell_of hk2 1
      have p2 := cell_of hk2 2
      have p3 := cell_of hk2 3
      have p4 := cell_of hk2 4
      have p5 := cell_of hk2 5
      have HJ := hid hJ
      clear hDk hwt hJ hk0 hk2
      go_wp2_with fail
      first | exact ⟨.pointer (some ⟨u, 0, none⟩), by kernel_rfl, fun q hq => by obtain rfl := hq rfl; exact HJ.out.calm HLT.out (by decide) (by decide) (fun _ => rfl) (Below.refl _ _)⟩ | exact ⟨.pointer (some ⟨u, 0, none⟩), by kernel_rfl, HJ.out.calm HLT.out (by decide) (by decide) (fun _ => rfl) (Below.refl _ _)⟩
    · intro D xs w1 hDk hwt hJ
      have ee : xs 1 = .pointer (some ⟨u, 0, none⟩) := hJ.v 1 (hwt 1 (List.mem_of_elem_eq_true (by kernel_rfl))) (by decide)
      rw [ee]
      clear ee
      have hk0 := (hJ.m.block u (lt_of_block H0.out) (by show ¬ u = u + 1 + 1; omega)).trans H0.out
      have hk2 := (hJ.m.block (u + 1 + 1 + 1) (lt_of_block H3.out) (by show ¬ u + 1 + 1 + 1 = u + 1 + 1; omega)).trans H3.out
      have q0 := cell_of hk0 0
      have p0 := cell_of hk2 0
      have p1 := cell_of hk2 1
      have p2 := cell_of hk2 2
      have p3 := cell_of hk2 3
      have p4 := cell_of hk2 4
      have p5 := cell_of hk2 5
      have HJ := hid hJ
      clear hDk hwt hJ hk0 hk2
      go_wp2_with fail
      first | exact ⟨.int .i64 k, by kernel_rfl, fun q hq => by obtain rfl := hq rfl; exact HJ.out.calm HLT.out (by decide) (by decide) (fun _ => rfl) (Below.refl _ _)⟩ | exact ⟨.int .i64 k, by kernel_rfl, HJ.out.calm HLT.out (by decide) (by decide) (fun _ => rfl) (Below.refl _ _)⟩
    · intro D xs w1 hDk hwt hJ
      have ee : xs 2 = .int .i64 k := hJ.v 2 (hwt 2 (List.mem_of_elem_eq_true (by kernel_rfl))) (by decide)
      rw [ee]
      clear ee
      have HRM := hid (room_at k hK2 w1 (HR2.out.same (hJ.m.block 0 HR2.out.lt (by show ¬ 0 = u + 1 + 1; omega))))
      have HJ := hid hJ
      clear hDk hwt hJ
      go_wp2_with (go_at_call 83; refine HRM.out.mono ?_; rintro e w3 ⟨rfl, rfl⟩)
      first | exact ⟨.int .i64 (roomOf k), by kernel_rfl, fun q hq => by obtain rfl := hq rfl; exact HJ.out.calm HLT.out (by decide) (by decide) (fun _ => rfl) (Below.refl _ _)⟩ | exact ⟨.int .i64 (roomOf k), by kernel_rfl, HJ.out.calm HLT.out (by decide) (by decide) (fun _ => rfl) (Below.refl _ _)⟩
    · intro D xs w1 hDk hwt hJ
      have ee : xs 0 = (.agg #[.int .i64 k, .string ⟨#[]⟩, .string ⟨#[]⟩, .string pt, .slice ya yn yc, .slice za zn zc]) := hJ.v 0 (hwt 0 (List.mem_of_elem_eq_true (by kernel_rfl))) (by decide)
      rw [ee]
      clear ee
      have ee : xs 3 = .int .i64 (roomOf k) := hJ.v 3 (hwt 3 (List.mem_of_elem_eq_true (by kernel_rfl))) (by decide)
      rw [ee]
      clear ee
      have hb1 : Below w.heap.size w w1 := by
        rw [HU.out]
        exact HBB.out.trans ⟨hJ.m.os, hJ.m.tape, hJ.m.output, hJ.m.size, fun i hi => hJ.m.block i (by have := HLT.out; omega) (by show ¬ i = u + 1 + 1; omega)⟩
      have HLD := hid (laid_at (roomOf k) (HI0.out.keep hb1) (roomOf_four HI0.out.k1 HI0.out.k2) HI0.out.len)
      have HJ := hid hJ
      clear hDk hwt hJ hb1
      go_wp2_with (go_at_call 82; refine HLD.out.mono ?_; rintro e w3 ⟨v, rfl, hK, hb⟩)
      exact ⟨v, by kernel_rfl, fun q hq => by obtain rfl := hq rfl; exact HJ.out.laid (by decide) (by decide) hK hb⟩
  case hend =>
    intro D xs w4 hD hJ
    dsimp only [List.take, dsts, fill, List.drop]
    have hK := hJ.l (hD 4 (by omega))
    have hM := hJ.m
    have hbl : Below w3.heap.size w3 w4 ∨ True := .inr trivial
    generalize xs 4 = v4 at *
    clear hbl
    have hb4 : Below u w w4 := HBB.out.trans ⟨hM.os, hM.tape, hM.output, hM.size, fun i hi => hM.block i (by have := HLT.out; omega) (by show ¬ i = u + 1 + 1; omega)⟩
    have h0 := (hM.block u (lt_of_block H0.out) (by show ¬ u = u + 1 + 1; omega)).trans H0.out
    have h1 := (hM.block (u + 1) (lt_of_block H1.out) (by show ¬ u + 1 = u + 1 + 1; omega)).trans H1.out
    have h3 := (hM.block (u + 1 + 1 + 1) (lt_of_block H3.out) (by show ¬ u + 1 + 1 + 1 = u + 1 + 1; omega)).trans H3.out
    have h2 := hJ.c
    simp only [Bool.cond_self] at h2
    have r0 := cell_of h1 0
    have r1 := cell_of h1 1
    have G0 := hid h0
    have G2 := hid h2
    have G3 := hid h3
    have HB4 := hid hb4
    clear hD hJ hM h0 h1 h2 h3 hb4 H0 H1 H2 H3 HBB
    rcases hK with ⟨x, hx, rfl, hF⟩ | ⟨x, gr, gu, hx, rfl, hF⟩
    · have HT := hid (F.fTurn_L y s g kk w4 hF HF.out)
      clear hF
      have hS : ∀ i, i < u + 1 + 1 + 1 + 1 → ¬ i = x := fun i hi => by have := HLT3.out; omega
      go_wp2_with (first | (go_at_call 172; refine HT.out.mono ?_; rintro e w5 ⟨rfl, hF5, hM5⟩; go_loud (have hb5 : Below u w w5 := HB4.out.trans ⟨hM5.os, hM5.tape, hM5.output, hM5.size, fun i hi => hM5.block i (by have := lt_of_block G0.out; omega) (hS i (by omega))⟩; have h0 := (hM5.block u (lt_of_block G0.out) (hS u (by omega))).trans G0.out; have h2 := (hM5.block (u + 1 + 1) (lt_of_block G2.out) (hS _ (by omega))).trans G2.out; have h3 := (hM5.block (u + 1 + 1 + 1) (lt_of_block G3.out) (hS _ (by omega))).trans G3.out; have q0 := cell_of h0 0; have p0 := cell_of h3 0; have p1 := cell_of h3 1; have p2 := cell_of h3 2; have p3 := cell_of h3 3; have p4 := cell_of h3 4; have p5 := cell_of h3 5; have HOF := hid (of_any (w := w5) (k := k) (k' := k) (pt := pt) (ya := ya) (yn := yn) (yc := yc) (za := za) (zn := zn) (zc := zc) (L := turnK L y s g) (by rw [turnK_len]; exact HI0.out.room) (.inl ⟨x, roomOf k, rfl, hF5⟩)); have G2b := hid h2; have HB5 := hid hb5; clear hF5 hM5 hb5 h0 h2 h3 HT)) | (go_at_call 84; refine HOF.out.mono ?_; rintro e w6 ⟨ya', yc', za', zc', rfl, oy, oz, hB6⟩; go_loud (rw [turnK_len] at oy oz ⊢; have h2 := (hB6.block _ (lt_of_block G2b.out)).trans G2b.out; have t0 := cell_of h2 0; have t1 := cell_of h2 1; have t2 := cell_of h2 2; have t3 := cell_of h2 3; have t4 := cell_of h2 4; have t5 := cell_of h2 5; have tf := free_of h2; have G2c := hid h2; have OY := hid oy; have OZ := hid oz; have HB6 := hid (HB5.out.trans (hB6.mono (by have := HB5.out.size; have := HU.out; omega))); clear h2 oy oz hB6 HOF)))
      obtain ⟨l1, l2⟩ := set6_at (.int .i64 k) (.string ⟨#[]⟩) (.string ⟨#[]⟩) (.string pt) (.slice ya' L.length yc') (.slice za' L.length zc') G2c.out
      obtain ⟨fs, hus⟩ : ∃ fs, Tryz.prog.underlying 53 = some (.struct fs) := ⟨_, rfl⟩
      refine bodyPost_ret (results_ct rfl _ _ (u + 1 + 1) _ _ _ _ rfl l1 hus rfl (by kernel_rfl)) rfl ⟨ya', yc', za', zc', rfl, ⟨?_, ?_, HI0.out.k1, HI0.out.k2, HI0.out.p, ?_, turnK_rise HI0.out.rise _ _ _, turnK_ok HI0.out.ok HKD.out⟩, ?_⟩
      · rw [turnK_len]; exact own_mod OY.out l2 (own_off OY.out G2c.out (by decide))
      · rw [turnK_len]; exact own_mod OZ.out l2 (own_off OZ.out G2c.out (by decide))
      · rw [turnK_len]; exact HI0.out.len
      · rw [HU.out]; exact HB6.out.trans ⟨l2.os, l2.tape, l2.output, l2.size, fun i hi => l2.block i (by have := lt_of_block G2c.out; omega) (by show ¬ i = u + 1 + 1; omega)⟩
    · have HT := hid (M.turn_L y s g kk hF HF.out)
      clear hF
      have hS : ∀ i, i < u + 1 + 1 + 1 + 1 → ¬ MOwn x gr gu i := fun i hi => by have := HLT3.out; rintro (e | e | e) <;> omega
      go_wp2_with (first | (go_at_call 187; refine HT.out.mono ?_; rintro e w5 ⟨rfl, hF5, hM5⟩; go_loud (have hb5 : Below u w w5 := HB4.out.trans ⟨hM5.os, hM5.tape, hM5.output, hM5.size, fun i hi => hM5.block i (by have := lt_of_block G0.out; omega) (hS i (by omega))⟩; have h0 := (hM5.block u (lt_of_block G0.out) (hS u (by omega))).trans G0.out; have h2 := (hM5.block (u + 1 + 1) (lt_of_block G2.out) (hS _ (by omega))).trans G2.out; have h3 := (hM5.block (u + 1 + 1 + 1) (lt_of_block G3.out) (hS _ (by omega))).trans G3.out; have q0 := cell_of h0 0; have p0 := cell_of h3 0; have p1 := cell_of h3 1; have p2 := cell_of h3 2; have p3 := cell_of h3 3; have p4 := cell_of h3 4; have p5 := cell_of h3 5; have HOF := hid (of_any (w := w5) (k := k) (k' := k) (pt := pt) (ya := ya) (yn := yn) (yc := yc) (za := za) (zn := zn) (zc := zc) (L := turnK L y s g) (by rw [turnK_len]; exact HI0.out.room) (.inr ⟨x, gr, gu, roomOf k, rfl, ⟨by obtain ⟨M, h1, h2⟩ := hF5.m; exact ⟨M, h1, h2.l⟩⟩⟩)); have G2b := hid h2; have HB5 := hid hb5; clear hF5 hM5 hb5 h0 h2 h3 HT)) | (go_at_call 84; refine HOF.out.mono ?_; rintro e w6 ⟨ya', yc', za', zc', rfl, oy, oz, hB6⟩; go_loud (rw [turnK_len] at oy oz ⊢; have h2 := (hB6.block _ (lt_of_block G2b.out)).trans G2b.out; have t0 := cell_of h2 0; have t1 := cell_of h2 1; have t2 := cell_of h2 2; have t3 := cell_of h2 3; have t4 := cell_of h2 4; have t5 := cell_of h2 5; have tf := free_of h2; have G2c := hid h2; have OY := hid oy; have OZ := hid oz; have HB6 := hid (HB5.out.trans (hB6.mono (by have := HB5.out.size; have := HU.out; omega))); clear h2 oy oz hB6 HOF)))
      obtain ⟨l1, l2⟩ := set6_at (.int .i64 k) (.string ⟨#[]⟩) (.string ⟨#[]⟩) (.string pt) (.slice ya' L.length yc') (.slice za' L.length zc') G2c.out
      obtain ⟨fs, hus⟩ : ∃ fs, Tryz.prog.underlying 53 = some (.struct fs) := ⟨_, rfl⟩
      refine bodyPost_ret (results_ct rfl _ _ (u + 1 + 1) _ _ _ _ rfl l1 hus rfl (by kernel_rfl)) rfl ⟨ya', yc', za', zc', rfl, ⟨?_, ?_, HI0.out.k1, HI0.out.k2, HI0.out.p, ?_, turnK_rise HI0.out.rise _ _ _, turnK_ok HI0.out.ok HKD.out⟩, ?_⟩
      · rw [turnK_len]; exact own_mod OY.out l2 (own_off OY.out G2c.out (by decide))
      · rw [turnK_len]; exact own_mod OZ.out l2 (own_off OZ.out G2c.out (by decide))
      · rw [turnK_len]; exact HI0.out.len
      · rw [HU.out]; exact HB6.out.trans ⟨l2.os, l2.tape, l2.output, l2.size, fun i hi => l2.block i (by have := lt_of_block G2c.out; omega) (by show ¬ i = u + 1 + 1; omega)⟩
end
end Go.Proofs.YtnngicopphiaaaaGreatDoor.O

namespace Go.Proofs.YtnngicopphiaaaaGreatDoor.O
set_option maxRecDepth 8000
open Go.ChangeShapes Go.WideShapes Go.ChangeAt Go.RowKit Go.Burg
def kOf (a : Bool) (k n : Nat) : Nat := bif a then k else kindOf n
section
variable {w w' : World} {k k' : Nat} {pt : ByteArray} {ya za : Option Addr} {yn yc zn zc : Nat} {L : List Kd}
theorem kind_at (n : Nat) (a : Bool) (w : World) (hr : RoomsAt w) (hn : n ≤ 100000) : Calls Tryz.prog 81 #[(.agg #[.int .i64 k, .string ⟨#[]⟩, .string ⟨#[]⟩, .string pt, .slice ya yn yc, .slice za zn zc]), .int .i64 n, .bool a] w fun e w' => e = .returned (.int .i64 (kOf a k n)) ∧ Below w.heap.size w w' := by
  have hB : Below w.heap.size w (w.alloc (.cells #[.int .i64 k, .string ⟨#[]⟩, .string ⟨#[]⟩, .string pt, .slice ya yn yc, .slice za zn zc] 136 (0, 0))) := (Below.refl _ _).alloc (Nat.le_refl _) _
  have HB := hid hB
  have HO := hid (of_at n _ (hr.alloc (.cells #[.int .i64 k, .string ⟨#[]⟩, .string ⟨#[]⟩, .string pt, .slice ya yn yc, .slice za zn zc] 136 (0, 0))) hn)
  have b0 := cell_of (heap_new w (.cells #[.int .i64 k, .string ⟨#[]⟩, .string ⟨#[]⟩, .string pt, .slice ya yn yc, .slice za zn zc] 136 (0, 0))) 0
  clear hB hr
  cases a
  · go_enter Tryz.func81, Tryz.ntmps81
    go_wp2_with (go_at_call 110; refine HO.out.mono ?_; rintro e w2 ⟨rfl, rfl⟩)
    go_ret
    exact ⟨rfl, HB.out⟩
  · go_enter Tryz.func81, Tryz.ntmps81
    go_wp2_with fail
    go_ret
    exact ⟨rfl, HB.out⟩
def OfG (k' : Nat) (pt : ByteArray) (n : Nat) (L : List Kd) (w : World) (cs : Array Value) : Prop :=
  ∃ ya yc za zc, cs = #[.int .i64 k', .string ⟨#[]⟩, .string ⟨#[]⟩, .string pt, .slice ya n yc, .slice za n zc] ∧ w.ownsRow 0 5 1 (.slice ya n yc) n (bytesL L) ∧ w.ownsRow 0 30 2 (.slice za n zc) n (kidsL L)
theorem OfG.mod {n c : Nat} {cs cc : Array Value} (h : OfG k' pt n L w cs) (hc : w.heap[c]? = some (.cells cc 53 (0, 0))) (hm : Mod (· = c) w w') : OfG k' pt n L w' cs := by
  obtain ⟨a, b, c', d, e, h1, h2⟩ := h
  exact ⟨a, b, c', d, e, own_mod h1 hm (own_off h1 hc (by decide)), own_mod h2 hm (own_off h2 hc (by decide))⟩
structure CJ (W0 : World) (c4 i9 iS k' : Nat) (pt : ByteArray) (n : Nat) (L : List Kd) (fx : List Nat) (tab : Nat → Value) (cz : Array Value) (D : Nat → Bool) (xs : Nat → Value) (w : World) : Prop where
  m : Mod (· = c4) W0 w
  v : ∀ j, D j = true → j ∈ fx → xs j = tab j
  l : D i9 = true → ∃ cs, xs i9 = .agg cs ∧ OfG k' pt n L w cs
  c0 : D iS = false → w.heap[c4]? = some (.cells cz 53 (0, 0))
  o : D iS = true → D i9 = true
  c1 : D iS = true → ∃ cs, w.heap[c4]? = some (.cells cs 53 (0, 0)) ∧ OfG k' pt n L w cs
variable {W0 : World} {c4 i9 iS n : Nat} {fx : List Nat} {tab : Nat → Value} {cz : Array Value} {D : Nat → Bool} {xs : Nat → Value}
theorem CJ.blk (h : CJ W0 c4 i9 iS k' pt n L fx tab cz D xs w) : ∃ cc, w.heap[c4]? = some (.cells cc 53 (0, 0)) := by
  cases e : D iS
  · exact ⟨_, h.c0 e⟩
  · obtain ⟨cs, h1, _⟩ := h.c1 e; exact ⟨_, h1⟩
theorem CJ.start (hc : W0.heap[c4]? = some (.cells cz 53 (0, 0))) : CJ W0 c4 i9 iS k' pt n L fx tab cz (fun _ => false) (fun _ => undef) W0.drew :=
  ⟨(Mod.refl _ _).drew, fun j h => (by cases h), fun h => (by cases h), fun _ => hc, fun h => (by cases h), fun h => (by cases h)⟩
theorem CJ.calm (h : CJ W0 c4 i9 iS k' pt n L fx tab cz D xs w) {i : Nat} {u : Value} (h1 : i ≠ i9) (h2 : i ≠ iS) (hu : i ∈ fx → u = tab i) (hb : Below w.heap.size w w') : CJ W0 c4 i9 iS k' pt n L fx tab cz (fun j => D j || j == i) (fun j => if j = i then u else xs j) w' := by
  obtain ⟨cc, hc⟩ := h.blk
  have hn : ¬ iS = i := fun e => h2 e.symm
  have hn9 : ¬ i9 = i := fun e => h1 e.symm
  have e : (D iS || iS == i) = D iS := by simp [hn]
  refine ⟨h.m.trans (mod_of_below hb) (fun _ _ e => e), fun j hj hr => ?_, fun e => ?_, fun e1 => ?_, fun e1 => (by rw [h.o (e.symm.trans e1)]; rfl), fun e1 => ?_⟩
  · by_cases e : j = i
    · subst e; simp only [if_pos]; exact hu hr
    · simp only [if_neg e]; exact h.v j (by simpa [e] using hj) hr
  · simp only [if_neg hn9]
    obtain ⟨cs, e1, e2⟩ := h.l (by simpa [hn9] using e)
    exact ⟨cs, e1, e2.mod hc (mod_of_below hb)⟩
  · exact (hb.block c4 (lt_of_block hc)).trans (h.c0 (e.symm.trans e1))
  · obtain ⟨cs, e2, e3⟩ := h.c1 (e.symm.trans e1)
    exact ⟨cs, (hb.block c4 (lt_of_block hc)).trans e2, e3.mod hc (mod_of_below hb)⟩
theorem CJ.store (h : CJ W0 c4 i9 iS k' pt n L fx tab cz D xs w) (hne : i9 ≠ iS) {u : Value} (hD : D iS = false) (hf : iS ∉ fx) (hw : D i9 = true) (hm : Mod (· = c4) w w') {cs : Array Value} (hg : OfG k' pt n L w cs) (hc : w'.heap[c4]? = some (.cells cs 53 (0, 0))) : CJ W0 c4 i9 iS k' pt n L fx tab cz (fun j => D j || j == iS) (fun j => if j = iS then u else xs j) w' := by
  refine ⟨h.m.trans hm (fun _ _ e => e), fun j hj hr => ?_, fun e => ?_, fun e1 => ?_, fun _ => (by rw [hw]; rfl), fun _ => ⟨cs, hc, hg.mod (h.c0 hD) hm⟩⟩
  · have e : ¬ j = iS := fun e => hf (e ▸ hr)
    simp only [if_neg e]; exact h.v j (by simpa [e] using hj) hr
  · simp only [if_neg hne]
    obtain ⟨cs, e1, e2⟩ := h.l (by simpa [hne] using e)
    exact ⟨cs, e1, e2.mod (h.c0 hD) hm⟩
  · simp at e1
end
end Go.Proofs.YtnngicopphiaaaaGreatDoor.O

namespace Go.Proofs.YtnngicopphiaaaaGreatDoor.O
set_option maxRecDepth 8000
open Go.ChangeShapes Go.WideShapes Go.ChangeAt Go.RowKit Go.Burg
end Go.Proofs.YtnngicopphiaaaaGreatDoor.O
