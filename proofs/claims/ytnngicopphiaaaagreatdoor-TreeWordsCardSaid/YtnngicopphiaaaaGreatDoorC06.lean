/- Part 6 of 51 of a proof: lemmas on the functions that it reaches. -/
import Derived.Test.YtnngicopphiaaaaGreatDoorC05
import Derived.OwnWalk
import Derived.Test.YtnngicopphiaaaaGreatDoorC02
namespace Go.Burg
open Go Go.RowKit
structure ManyL (T Tr Tb : TypeId) (w : World) (x gr gu r : Nat) (L : List Kd) : Prop where
  m : ∃ M, ManyAt T Tr Tb w x gr gu r M ∧ MIs M r L
structure ManyK (T Tr Tb : TypeId) (w : World) (x gr gu r : Nat) (L : List Kd) : Prop where
  m : ∃ M, ManyAt T Tr Tb w x gr gu r M ∧ MLook M L
end Go.Burg
namespace Go.Proofs.YtnngicopphiaaaaGreatDoor.M
set_option maxRecDepth 8000
open Go.ChangeShapes Go.WideShapes Go.ChangeAt Go.RowKit Go.Burg
section
variable {w : World} {x gr gu r : Nat} {M : Mw} {L : List Kd}
set_option maxHeartbeats 4000000 in
theorem put_at (b p : Nat) (s g : Int) (hb : b < 256) (h : ManyAt 219 30 4 w x gr gu r M) (hp : FirstFree M r p) (h0 : M.at' b = 0) :
    Calls Tryz.prog 185 #[.pointer (some ⟨x, 0, none⟩), .int .u8 b, .agg #[.int .i64 s, .int .u32 g]] w fun e w' => e = .returned (.int .i64 0) ∧ ManyAt 219 30 4 w' x gr gu r (M.lay p b s g) ∧ Mod (MOwn x gr gu) w w' := by
  have hA := h.alloc (.cells #[.int .i64 s, .int .u32 g] 30 (0, 0))
  have hN := heap_new w (.cells #[.int .i64 s, .int .u32 g] 30 (0, 0))
  have hx : ¬ MOwn x gr gu w.heap.size := by have := h.lt; rintro (e | e | e) <;> omega
  have hB : Mod (MOwn x gr gu) w (w.alloc (.cells #[.int .i64 s, .int .u32 g] 30 (0, 0))) := (Mod.refl _ _).alloc _
  have HT := hid (there_at hA)
  have HH := hid (has_at b hb hA)
  rw [h0] at HH
  generalize hW : w.alloc (.cells #[.int .i64 s, .int .u32 g] 30 (0, 0)) = W at *
  generalize hu : w.heap.size = c at *
  have HW := hid hW
  have HU := hid hu
  have HA := hid hA
  have HN2 := hid hN
  have HB := hid hB
  have HX := hid hx
  have HP := hid hp
  have HBB := hid hb
  clear h hW hu hA hN hB hx hp h0
  go_enter Tryz.func185, Tryz.ntmps185
  go_wp2_with fail
  rw [HW.out, HU.out]
  go_wp2_with (first | (go_at_call 193; refine HT.out.mono ?_; rintro e w2 ⟨rfl, rfl⟩) | (go_at_call 191; refine HH.out.mono ?_; rintro e w2 ⟨rfl, rfl⟩))
  clear HT HH
  refine wp_region_seqI 9 (Turn 6 (fun w1 => ManyAt 219 30 4 w1 x gr gu r M ∧ Mod (MOwn x gr gu) W w1) (fun w1 => ManyAt 219 30 4 w1 x gr gu r (M.lay p b s g) ∧ Mod (MOwn x gr gu) W w1)) (by kernel_rfl) (by kernel_rfl) (by kernel_rfl) (Turn.start ⟨HA.out.same rfl rfl rfl, (Mod.refl _ _).drew⟩) ?_
  dsimp only [List.take]
  iterate 6
    refine Seq.calm (a' := ?_) (by decide) ?_ ?_ ?_
    rotate_left
    ·
      intro w1 hw1
      have hM := hw1.elim (fun h => h.2) (fun h => h.2)
      have hu := (hM.block c (lt_of_block HN2.out) HX.out).trans HN2.out
      have u0 := cell_of hu 0
      have u1 := cell_of hu 1
      clear hM hu hw1
      go_wp2_with (fail)
      first | (refine ⟨?_, id, id⟩; exact rfl) | (refine ⟨?_, fail⟩; exact rfl)
    · kernel_rfl
  refine Seq.turn (a' := ?_) ?_ ?_ ?_
  rotate_left
  ·
    intro w1 hw1
    have HA1 := hid hw1.1
    have HM1 := hid hw1.2
    clear hw1
    go_wp2_with (go_at_call 194; refine (lay_at b p s g HBB.out HA1.out HP.out).mono ?_; rintro e w2 ⟨rfl, hA2, hM2⟩)
    refine ⟨?_, hA2, HM1.out.trans hM2 (fun _ _ h => h)⟩
    exact rfl
  · kernel_rfl
  iterate 2
    refine Seq.calm (a' := ?_) (by decide) ?_ ?_ ?_
    rotate_left
    ·
      intro w1 hw1
      have hM := hw1.elim (fun h => h.2) (fun h => h.2)
      have hu := (hM.block c (lt_of_block HN2.out) HX.out).trans HN2.out
      have u0 := cell_of hu 0
      have u1 := cell_of hu 1
      clear hM hu hw1
      go_wp2_with (fail)
      first | (refine ⟨?_, id, id⟩; exact rfl) | (refine ⟨?_, fail⟩; exact rfl)
    · kernel_rfl
  refine SeqI.nil ?_
  intro D w1 hD hI
  replace hI := hI.done (hD 6 (by omega))
  clear hD
  dsimp only [List.drop]
  go_wp2
  go_ret
  exact ⟨rfl, hI.1, HB.out.trans hI.2 (fun _ _ h => h)⟩
theorem put_L (k : Kd) (hl : L.length < r) (h : ManyL 219 30 4 w x gr gu r L) (hk : 0 ≤ k.b ∧ k.b < 256) (hn : findK L k.b = none) :
    Calls Tryz.prog 185 #[.pointer (some ⟨x, 0, none⟩), .int .u8 k.b, .agg #[.int .i64 k.s, .int .u32 k.g]] w fun e w' => e = .returned (.int .i64 0) ∧ ManyL 219 30 4 w' x gr gu r (insK L k) ∧ Mod (MOwn x gr gu) w w' := by
  obtain ⟨M, hA, hI⟩ := h.m
  obtain ⟨b, s, g⟩ := k
  obtain ⟨b, rfl⟩ := Int.eq_ofNat_of_zero_le hk.1
  have hb : b < 256 := by have := hk.2; simp only at this; omega
  refine (put_at b L.length s g hb hA (hI.free hl) ((Mw.at0 hI.l hb).2 hn)).mono ?_
  rintro e w' ⟨rfl, hA', hM⟩
  exact ⟨rfl, ⟨_, hA', hI.lay s g hb hn⟩, hM⟩
set_option maxHeartbeats 4000000 in
theorem find_no (b : Nat) (hb : b < 256) (h : ManyAt 219 30 4 w x gr gu r M) (h0 : M.at' b = 0) :
    Calls Tryz.prog 182 #[.pointer (some ⟨x, 0, none⟩), .int .u8 b] w fun e w' => e = .returned (.tuple #[.agg #[.int .i64 0, .int .u32 0], .bool false]) ∧ Below w.heap.size w w' := by
  have hA := h.alloc (.cells #[.int .i64 0, .int .u32 0] 30 (0, 0))
  have HT := hid (there_at hA)
  have HH := hid (has_at b hb hA)
  rw [h0] at HH
  clear hA h0 h
  go_enter Tryz.func182, Tryz.ntmps182
  go_wp2_with (first | (go_at_call 193; refine HT.out.mono ?_; rintro e w2 ⟨rfl, rfl⟩) | (go_at_call 191; refine HH.out.mono ?_; rintro e w2 ⟨rfl, rfl⟩))
  refine bodyPost_ret (v := .tuple #[.agg #[_, _], _]) (by simp [results, Tryz.results182, go_sem]) rfl ⟨rfl, ?_⟩
  exact (Below.refl _ _).alloc (Nat.le_refl _) _
set_option maxHeartbeats 4000000 in
theorem find_yes (b p : Nat) (hb : b < 256) (h : ManyAt 219 30 4 w x gr gu r M) (h0 : M.at' b = p + 1) :
    Calls Tryz.prog 182 #[.pointer (some ⟨x, 0, none⟩), .int .u8 b] w fun e w' => e = .returned (.tuple #[.agg #[.int .i64 (M.s p), .int .u32 (M.g p)], .bool true]) ∧ Below w.heap.size w w' := by
  have hA := h.alloc (.cells #[.int .i64 0, .int .u32 0] 30 (0, 0))
  have HT := hid (there_at hA)
  have HH := hid (has_at b hb hA)
  have HR := hid (ref_at b p hb hA h0)
  rw [h0] at HH
  have hd : decide (0 < p + 1) = true := by simp
  rw [hd] at HH
  have hN := heap_new w (.cells #[.int .i64 0, .int .u32 0] 30 (0, 0))
  have hB : Below w.heap.size w (w.alloc (.cells #[.int .i64 0, .int .u32 0] 30 (0, 0))) := (Below.refl _ _).alloc (Nat.le_refl _) _
  have hpr : p < r := by have := h.at_le b hb; omega
  generalize hW : w.alloc (.cells #[.int .i64 0, .int .u32 0] 30 (0, 0)) = W at *
  generalize hu : w.heap.size = c at *
  have HW := hid hW
  have HU := hid hu
  have HA := hid hA
  have HN2 := hid hN
  have HB := hid hB
  clear h hW hu hA hN hB h0 hd
  go_enter Tryz.func182, Tryz.ntmps182
  go_wp2_with fail
  rw [HW.out, HU.out]
  go_wp2_with (first | (go_at_call 193; refine HT.out.mono ?_; rintro e w2 ⟨rfl, rfl⟩) | (go_at_call 191; refine HH.out.mono ?_; rintro e w2 ⟨rfl, rfl⟩) | (go_at_call 192; refine HR.out.mono ?_; rintro e w2 ⟨rfl, hb2⟩; obtain ⟨k0, k1, _⟩ := (HA.out.keep hb2).ref hpr; have hk := (hb2.block c (lt_of_block HN2.out)).trans HN2.out; have n0 := cell_of hk 0; have n1 := cell_of hk 1; have nf := free_of hk; have HB2 := hid (HB.out.trans (hb2.mono (by rw [← HU.out]; exact HB.out.size))); clear hk hb2))
  refine bodyPost_ret (v := .tuple #[.agg #[_, _], _]) (by simp [results, Tryz.results182, go_sem, n0, n1]) rfl ⟨rfl, ?_⟩
  exact (HB2.out.setCell (Nat.le_refl _) _).setCell (Nat.le_refl _) _
theorem find_L (y : Int) (hy : 0 ≤ y ∧ y < 256) (h : ManyL 219 30 4 w x gr gu r L) :
    Calls Tryz.prog 182 #[.pointer (some ⟨x, 0, none⟩), .int .u8 y] w fun e w' => e = .returned (.tuple #[.agg #[.int .i64 ((findK L y).elim 0 Kd.s), .int .u32 ((findK L y).elim 0 Kd.g)], .bool (findK L y).isSome]) ∧ Below w.heap.size w w' := by
  obtain ⟨M, hA, hI⟩ := h.m
  obtain ⟨b, rfl⟩ := Int.eq_ofNat_of_zero_le hy.1
  have hb : b < 256 := by omega
  cases hf : findK L (b : Int) with
  | none => exact find_no b hb hA ((Mw.at0 hI.l hb).2 hf)
  | some k =>
    obtain ⟨p, h1, h2, h3⟩ := Mw.atp hI.l hb hf
    have := find_yes b p hb hA h1
    rw [h2, h3] at this
    exact this
end
end Go.Proofs.YtnngicopphiaaaaGreatDoor.M

namespace Go.Proofs.YtnngicopphiaaaaGreatDoor.M
set_option maxRecDepth 8000
open Go.ChangeShapes Go.WideShapes Go.ChangeAt Go.RowKit Go.Burg
section
variable {w : World} {x gr gu r : Nat} {M : Mw} {L : List Kd}
theorem ref_or (b p : Nat) (s g : Int) (hb : b < 256) (hp : M.at' b = p + 1) {A : World} {w1 : World} (hw : (ManyAt 219 30 4 w1 x gr gu r M ∧ Mod (MOwn x gr gu) A w1) ∨ (ManyAt 219 30 4 w1 x gr gu r (M.setR p s g) ∧ Mod (MOwn x gr gu) A w1)) :
    Calls Tryz.prog 192 #[.pointer (some ⟨x, 0, none⟩), .int .i64 b] w1 fun e w' => e = .returned (.pointer (some ⟨gr, p * 2, none⟩)) ∧ Below w1.heap.size w1 w' := by
  rcases hw with h | h
  · exact ref_at b p hb h.1 hp
  · exact ref_at (M := M.setR p s g) b p hb h.1 hp
set_option maxHeartbeats 4000000 in
theorem turn_at (b p : Nat) (s g : Int) (hb : b < 256) (h : ManyAt 219 30 4 w x gr gu r M) (h0 : M.at' b = p + 1) :
    Calls Tryz.prog 187 #[.pointer (some ⟨x, 0, none⟩), .int .u8 b, .agg #[.int .i64 s, .int .u32 g]] w fun e w' => e = .returned (.int .i64 0) ∧ ManyAt 219 30 4 w' x gr gu r (M.setR p s g) ∧ Mod (MOwn x gr gu) w w' := by
  have hA := h.alloc (.cells #[.int .i64 s, .int .u32 g] 30 (0, 0))
  have hN := heap_new w (.cells #[.int .i64 s, .int .u32 g] 30 (0, 0))
  have hx : ¬ MOwn x gr gu w.heap.size := by have := h.lt; rintro (e | e | e) <;> omega
  have hB : Mod (MOwn x gr gu) w (w.alloc (.cells #[.int .i64 s, .int .u32 g] 30 (0, 0))) := (Mod.refl _ _).alloc _
  have HT := hid (there_at hA)
  have HH := hid (has_at b hb hA)
  rw [h0] at HH
  have hd : decide (0 < p + 1) = true := by simp
  rw [hd] at HH
  have hpr : p < r := by have := h.at_le b hb; omega
  generalize hW : w.alloc (.cells #[.int .i64 s, .int .u32 g] 30 (0, 0)) = W at *
  generalize hu : w.heap.size = c at *
  have HW := hid hW
  have HU := hid hu
  have HA := hid hA
  have HN2 := hid hN
  have HB := hid hB
  have HX := hid hx
  have HP := hid h0
  have HBB := hid hb
  clear h hW hu hA hN hB hx h0 hd
  go_enter Tryz.func187, Tryz.ntmps187
  go_wp2_with fail
  rw [HW.out, HU.out]
  go_wp2_with (first | (go_at_call 193; refine HT.out.mono ?_; rintro e w2 ⟨rfl, rfl⟩) | (go_at_call 191; refine HH.out.mono ?_; rintro e w2 ⟨rfl, rfl⟩))
  clear HT HH
  refine wp_region_seqI 9 (Turn 8 (fun w1 => ManyAt 219 30 4 w1 x gr gu r M ∧ Mod (MOwn x gr gu) W w1) (fun w1 => ManyAt 219 30 4 w1 x gr gu r (M.setR p s g) ∧ Mod (MOwn x gr gu) W w1)) (by kernel_rfl) (by kernel_rfl) (by kernel_rfl) (Turn.start ⟨HA.out.same rfl rfl rfl, (Mod.refl _ _).drew⟩) ?_
  dsimp only [List.take]
  iterate 8
    refine Seq.calm (a' := ?_) (by decide) ?_ ?_ ?_
    rotate_left
    ·
      intro w1 hw1
      have hM := hw1.elim (fun h => h.2) (fun h => h.2)
      have hu := (hM.block c (lt_of_block HN2.out) HX.out).trans HN2.out
      have u0 := cell_of hu 0
      have u1 := cell_of hu 1
      have HW1 := hid hw1
      clear hM hu hw1
      go_wp2_with (go_at_call 192; refine (ref_or b p s g HBB.out HP.out HW1.out).mono ?_; rintro e w' ⟨rfl, hb⟩)
      first | (refine ⟨?_, id, id⟩; exact rfl) | (refine ⟨?_, fun h => ⟨h.1.keep hb, h.2.trans (Mod.ofBelow hb) (fun _ _ h => h)⟩, fun h => ⟨h.1.keep hb, h.2.trans (Mod.ofBelow hb) (fun _ _ h => h)⟩⟩; exact rfl)
    · kernel_rfl
  refine Seq.turn (a' := ?_) ?_ ?_ ?_
  rotate_left
  ·
    intro w1 hw1
    have HA1 := hid hw1.1
    have HM1 := hid hw1.2
    obtain ⟨k0, k1, kf⟩ := hw1.1.ref hpr
    clear hw1
    go_wp2_with fail
    refine ⟨?_, HA1.out.setR hpr s g, (HM1.out.setCell (p := ⟨gr, p * 2, none⟩) (.inl (.inr (.inl rfl))) _).setCell (p := ⟨gr, p * 2 + 1, none⟩) (.inl (.inr (.inl rfl))) _⟩
    exact rfl
  · kernel_rfl
  iterate 0
    refine Seq.calm (a' := ?_) (by decide) ?_ ?_ ?_
    rotate_left
    ·
      intro w1 hw1
      have hM := hw1.elim (fun h => h.2) (fun h => h.2)
      have hu := (hM.block c (lt_of_block HN2.out) HX.out).trans HN2.out
      have u0 := cell_of hu 0
      have u1 := cell_of hu 1
      have HW1 := hid hw1
      clear hM hu hw1
      go_wp2_with (go_at_call 192; refine (ref_or b p s g HBB.out HP.out HW1.out).mono ?_; rintro e w' ⟨rfl, hb⟩)
      first | (refine ⟨?_, id, id⟩; exact rfl) | (refine ⟨?_, fun h => ⟨h.1.keep hb, h.2.trans (Mod.ofBelow hb) (fun _ _ h => h)⟩, fun h => ⟨h.1.keep hb, h.2.trans (Mod.ofBelow hb) (fun _ _ h => h)⟩⟩; exact rfl)
    · kernel_rfl
  refine SeqI.nil ?_
  intro D w1 hD hI
  replace hI := hI.done (hD 8 (by omega))
  clear hD
  dsimp only [List.drop]
  go_wp2
  go_ret
  exact ⟨rfl, hI.1, HB.out.trans hI.2 (fun _ _ h => h)⟩
theorem turn_L (y s g : Int) (k : Kd) (h : ManyL 219 30 4 w x gr gu r L) (hn : findK L y = some k) :
    Calls Tryz.prog 187 #[.pointer (some ⟨x, 0, none⟩), .int .u8 y, .agg #[.int .i64 s, .int .u32 g]] w fun e w' => e = .returned (.int .i64 0) ∧ ManyL 219 30 4 w' x gr gu r (turnK L y s g) ∧ Mod (MOwn x gr gu) w w' := by
  obtain ⟨M, hA, hI⟩ := h.m
  have hm := findK_b hn
  have hr := hI.l.rng k hm.2
  rw [hm.1] at hr
  obtain ⟨b, rfl⟩ := Int.eq_ofNat_of_zero_le hr.1
  have hb : b < 256 := by omega
  obtain ⟨p, h1, h2, h3⟩ := Mw.atp hI.l hb hn
  refine (turn_at b p s g hb hA h1).mono ?_
  rintro e w' ⟨rfl, hA', hM⟩
  exact ⟨rfl, ⟨_, hA', hI.turn s g hb h1⟩, hM⟩
set_option maxHeartbeats 4000000 in
theorem lift_at (b p : Nat) (hb : b < 256) (h : ManyAt 219 30 4 w x gr gu r M) (h0 : M.at' b = p + 1) :
    Calls Tryz.prog 195 #[.pointer (some ⟨x, 0, none⟩), .int .i64 b] w fun e w' => e = .returned (.agg #[.int .i64 (M.s p), .int .u32 (M.g p)]) ∧ ManyAt 219 30 4 w' x gr gu r (M.lift p b) ∧ Mod (MOwn x gr gu) w w' := by
  have hA := (h.alloc (.cells #[.int .i64 0, .int .u32 0] 30 (0, 0))).alloc (.cells #[.int .i64 (M.s p), .int .u32 (M.g p)] 30 (0, 0))
  have hs1 : (w.alloc (.cells #[.int .i64 0, .int .u32 0] 30 (0, 0))).heap.size = w.heap.size + 1 := by simp
  have hN1 := blk_alloc2 (o' := (.cells #[.int .i64 (M.s p), .int .u32 (M.g p)] 30 (0, 0))) (heap_new w (.cells #[.int .i64 0, .int .u32 0] 30 (0, 0)))
  have hN2 := heap_new (w.alloc (.cells #[.int .i64 0, .int .u32 0] 30 (0, 0))) (.cells #[.int .i64 (M.s p), .int .u32 (M.g p)] 30 (0, 0))
  rw [hs1] at hN2
  have hx1 : ¬ MOwn x gr gu w.heap.size := by have := h.lt; rintro (e | e | e) <;> omega
  have hx2 : ¬ MOwn x gr gu (w.heap.size + 1) := by have := h.lt; rintro (e | e | e) <;> omega
  have hB : Mod (MOwn x gr gu) w ((w.alloc (.cells #[.int .i64 0, .int .u32 0] 30 (0, 0))).alloc (.cells #[.int .i64 (M.s p), .int .u32 (M.g p)] 30 (0, 0))) := ((Mod.refl _ _).alloc _).alloc _
  have hpr : p < r := by have := h.at_le b hb; omega
  have c1 := (h.at1 hb).1
  rw [h0] at c1
  have c2 := h.head.1
  obtain ⟨q0, q1, _⟩ := h.ref hpr
  have hl := h.lt
  have hl1 := hl.1
  have hl2 := hl.2.1
  have hr := h.r2
  have hd2 : decide (256 ≤ b) = false := by simp; omega
  have hd3 : decide (r ≤ p) = false := by simp; omega
  have HA := hid hA
  have HN1 := hid hN1
  have HN2 := hid hN2
  have HB := hid hB
  have HX1 := hid hx1
  have HX2 := hid hx2
  have HBB := hid hb
  clear h hA hN1 hN2 hB hx1 hx2 h0 hs1 hl
  go_enter Tryz.func195, Tryz.ntmps195
  go_wp2_with fail
  generalize hW : (w.alloc (.cells #[.int .i64 0, .int .u32 0] 30 (0, 0))).alloc (.cells #[.int .i64 (M.s p), .int .u32 (M.g p)] 30 (0, 0)) = W at *
  generalize hu : w.heap.size = c at *
  have HW := hid hW
  have HU := hid hu
  clear hW hu c1 c2 q0 q1 hl1 hl2
  refine wp_region_seqI 21 (Turn3 14 16 20 (fun b1 b2 b3 w1 => ManyAt 219 30 4 w1 x gr gu r (M.mid p b 0 false 0 0 b1 b2 b3) ∧ Mod (MOwn x gr gu) W w1)) (by kernel_rfl) (by kernel_rfl) (by kernel_rfl) (Turn3.start ⟨HA.out.same rfl rfl rfl, (Mod.refl _ _).drew⟩) ?_
  dsimp only [List.take]
  iterate 14
    refine Seq3.calm (a' := ?_) (by decide) (by decide) (by decide) ?_ ?_ ?_
    rotate_left
    ·
      intro b1 b2 b3 w1 hw1
      have HW1 := hid hw1
      have e1 := hw1.1.head.1
      have e2 := hw1.1.head.2
      clear hw1
      go_wp2_with (fail)
      refine ⟨?_, HW1.out⟩
      exact rfl
    · kernel_rfl
  refine Seq3.at1 (a' := ?_) (by decide) (by decide) ?_ ?_ ?_
  rotate_left
  ·
    intro b2 b3 w1 hw1
    have HW1 := hid hw1
    obtain ⟨k0, k1⟩ := hw1.1.used hpr
    clear hw1
    go_wp2_with fail
    refine ⟨?_, by have := HW1.out.1.setU hpr false; rwa [Mw.mid1] at this, HW1.out.2.setCell (p := ⟨gu, p, none⟩) (.inl (.inr (.inr rfl))) _⟩
    exact rfl
  · kernel_rfl
  iterate 1
    refine Seq3.calm (a' := ?_) (by decide) (by decide) (by decide) ?_ ?_ ?_
    rotate_left
    ·
      intro b1 b2 b3 w1 hw1
      have HW1 := hid hw1
      have e1 := hw1.1.head.1
      have e2 := hw1.1.head.2
      clear hw1
      go_wp2_with (fail)
      refine ⟨?_, HW1.out⟩
      exact rfl
    · kernel_rfl
  refine Seq3.at2 (a' := ?_) (by decide) (by decide) ?_ ?_ ?_
  rotate_left
  ·
    intro b1 b3 w1 hw1
    have HW1 := hid hw1
    obtain ⟨k0, k1, kf⟩ := hw1.1.ref hpr
    clear hw1
    go_wp2_with fail
    refine ⟨?_, by have := HW1.out.1.setR hpr 0 0; rwa [Mw.mid2] at this, (HW1.out.2.setCell (p := ⟨gr, p * 2, none⟩) (.inl (.inr (.inl rfl))) _).setCell (p := ⟨gr, p * 2 + 1, none⟩) (.inl (.inr (.inl rfl))) _⟩
    exact rfl
  · kernel_rfl
  iterate 3
    refine Seq3.calm (a' := ?_) (by decide) (by decide) (by decide) ?_ ?_ ?_
    rotate_left
    ·
      intro b1 b2 b3 w1 hw1
      have HW1 := hid hw1
      have e1 := hw1.1.head.1
      have e2 := hw1.1.head.2
      clear hw1
      go_wp2_with (fail)
      refine ⟨?_, HW1.out⟩
      exact rfl
    · kernel_rfl
  refine Seq3.at3 (a' := ?_) (by decide) (by decide) ?_ ?_ ?_
  rotate_left
  ·
    intro b1 b2 w1 hw1
    have HW1 := hid hw1
    obtain ⟨k0, k1⟩ := hw1.1.at1 HBB.out
    clear hw1
    go_wp2_with fail
    refine ⟨?_, by have := HW1.out.1.setA HBB.out (v := 0) (Nat.zero_le _); rwa [Mw.mid3] at this, HW1.out.2.setCell (p := ⟨x, b, none⟩) (.inl (.inl rfl)) _⟩
    exact rfl
  · kernel_rfl
  iterate 0
    refine Seq3.calm (a' := ?_) (by decide) (by decide) (by decide) ?_ ?_ ?_
    rotate_left
    ·
      intro b1 b2 b3 w1 hw1
      have HW1 := hid hw1
      have e1 := hw1.1.head.1
      have e2 := hw1.1.head.2
      clear hw1
      go_wp2_with (fail)
      refine ⟨?_, HW1.out⟩
      exact rfl
    · kernel_rfl
  refine SeqI.nil ?_
  intro D w1 hD hI
  replace hI := hI.done (hD 14 (by omega)) (hD 16 (by omega)) (hD 20 (by omega))
  clear hD
  dsimp only [List.drop]
  have h1 := (hI.2.block c (lt_of_block HN1.out) HX1.out).trans HN1.out
  have h2 := (hI.2.block (c + 1) (lt_of_block HN2.out) HX2.out).trans HN2.out
  have n0 := cell_of h1 0
  have n1 := cell_of h1 1
  have nf := free_of h1
  have m0 := cell_of h2 0
  have m1 := cell_of h2 1
  have HI := hid hI
  clear h1 h2 hI
  go_wp2
  refine bodyPost_ret (v := .agg #[.int .i64 (M.s p), .int .u32 (M.g p)]) (by simp [results, Tryz.results195, go_sem, n0, n1]) rfl ⟨rfl, ?_⟩
  have hMs := Mod.setCell (S := (· = c)) (p := ⟨c, 1, none⟩) (Mod.setCell (S := (· = c)) (p := ⟨c, 0, none⟩) (Mod.refl _ w1) (.inl rfl) (.int .i64 (M.s p))) (.inl rfl) (.int .u32 (M.g p))
  have hxc := HX1.out
  exact ⟨HI.out.1.mod hMs (fun e => hxc (.inl e.symm)) (fun e => hxc (.inr (.inl e.symm))) (fun e => hxc (.inr (.inr e.symm))), (HB.out.trans HI.out.2 (fun _ _ h => h)).trans hMs (fun k hk e => by have := HU.out; omega)⟩
end
end Go.Proofs.YtnngicopphiaaaaGreatDoor.M

namespace Go.Proofs.YtnngicopphiaaaaGreatDoor.M
set_option maxRecDepth 20000
open Go.RowKit Go.Burg
theorem new_cells (a b : Value) : Array.foldl (fun cs (x : Value × Nat) => cs.setIfInBounds x.snd x.fst) Tryz.zeroCells219 ((Tryz.zeroCells217.setIfInBounds 256 a).setIfInBounds 257 b).zipIdx 0 258 = (List.replicate 256 (Value.int .u16 0) ++ [a, b]).toArray := by kernel_rfl
end Go.Proofs.YtnngicopphiaaaaGreatDoor.M
