/- Part 32 of 51 of a proof: lemmas on the functions that it reaches. -/
import Derived.Test.YtnngicopphiaaaaGreatDoorC31
import Derived.Test.YtnngicopphiaaaaGreatDoorC02
import Derived.Test.YtnngicopphiaaaaGreatDoorC07
namespace Go.Proofs.YtnngicopphiaaaaGreatDoor.T
set_option maxRecDepth 8000
open Go.ChangeShapes Go.WideShapes Go.ChangeAt Go.RowKit Go.Burg
open Go.Burg.Lk
theorem SeekW.way_pos {P : List (Cel PNd)} {c : ByteArray} {r : Int × Int} {d : Nat} {W : List (Int × Int)} {s : SpotP} (h : SeekW P c r d W s) : 0 < s.way.length := by
  induction h with
  | leaf => simp
  | split => simp
  | bare => simp
  | down _ _ _ _ _ _ _ ih => exact ih
theorem SeekW.way_le {P : List (Cel PNd)} {c : ByteArray} {r : Int × Int} {d : Nat} {W : List (Int × Int)} {s : SpotP} (h : SeekW P c r d W s) : s.way.length + d ≤ W.length + c.size + 1 := by
  induction h with
  | leaf _ _ h1 _ => simp; omega
  | split _ _ h1 _ => simp; omega
  | bare _ _ h1 _ _ _ => simp; omega
  | down _ _ _ _ _ _ _ ih => simp at ih; omega
structure SpotAt (w : World) (b g wc : Nat) (s : SpotP) : Prop where
  h : w.heap[b]? = some (.cells #[.int .i64 s.what, .slice (some ⟨g, 0, none⟩) s.way.length wc, .int .i64 s.at_, .int .i64 s.depth] 79 (0, 0))
  o : w.ownsRow 0 30 2 (.slice (some ⟨g, 0, none⟩) s.way.length wc) s.way.length (refsL s.way)
  n : 0 < s.way.length
  m : s.way.length ≤ 100
section
variable {w w' : World} {b g wc : Nat} {s : SpotP}
theorem SpotAt.keep (h : SpotAt w b g wc s) (hb : Below w.heap.size w w') : SpotAt w' b g wc s := ⟨(hb.block _ (lt_of_block h.h)).trans h.h, O.own_same h.o hb, h.n, h.m⟩
theorem SpotAt.glt (h : SpotAt w b g wc s) : g < w.heap.size := (O.own_ge h.o rfl).2
theorem SpotAt.ref (h : SpotAt w b g wc s) {j : Nat} {r : Int × Int} (hj : s.way[j]? = some r) : w.cell? ⟨g, j * 2, none⟩ = some (.int .i64 r.1) ∧ w.cell? ⟨g, j * 2 + 1, none⟩ = some (.int .u32 r.2) := by
  obtain ⟨g', e, _, hc⟩ := O.own_cells h.o h.n
  cases e
  obtain ⟨a, b⟩ := refsL_get hj
  exact ⟨hc _ _ a, hc _ _ b⟩
set_option maxHeartbeats 1000000 in
theorem up_at {k : Nat} {r : Int × Int} (h : SpotAt w b g wc s) (hk : k < s.way.length) (hr : s.way[s.way.length - 1 - k]? = some r) :
    Calls Tryz.prog 37 #[.pointer (some ⟨b, 0, none⟩), .int .i64 k] w fun e w' => e = .returned (.agg #[.int .i64 r.1, .int .u32 r.2]) ∧ Below w.heap.size w w' := by
  have hB : Below w.heap.size w (w.alloc (.cells #[.int .i64 0, .int .u32 0] 30 (0, 0))) := (Below.refl _ _).alloc (Nat.le_refl _) _
  have hbl0 := lt_of_block h.h
  have hgl0 := h.glt
  have h0 := heap_new w (.cells #[.int .i64 0, .int .u32 0] 30 (0, 0))
  have hm := h.m
  have hz := (h.keep hB).ref hr
  have hb := (h.keep hB).h
  generalize hW : w.alloc (.cells #[.int .i64 0, .int .u32 0] 30 (0, 0)) = W at *
  generalize hu : w.heap.size = u at *
  have hbl : b < W.heap.size := lt_of_block hb
  have hgl : g < W.heap.size := by have := hB.size; omega
  have HZ := hid hz
  have HB := hid hb
  have H0 := hid h0
  have HW := hid hW
  have HU := hid hu
  have HBL := hid hB
  have e1 : ((s.way.length : Nat) : Int) - 1 - (k : Int) = ((s.way.length - 1 - k : Nat) : Int) := by omega
  have hix : s.way.length - 1 - k < s.way.length := by omega
  generalize s.way.length - 1 - k = ix at *
  clear h hz hb h0 hW hu hB hr hk
  go_enter Tryz.func37, Tryz.ntmps37
  go_wp2_with fail
  rw [HW.out, HU.out]
  refine wp_region_seqI 15 (Turn 14 (SkJ 30 u W #[.int .i64 0, .int .u32 0]) (SkJ 30 u W #[.int .i64 r.1, .int .u32 r.2])) (by kernel_rfl) (by kernel_rfl) (by kernel_rfl) (Turn.start ⟨(Mod.refl _ _).drew, H0.out⟩) ?_
  dsimp only [List.take]
  iterate 14
    refine Seq.calm (a' := ?_) (by decide) ?_ ?_ ?_
    rotate_left
    ·
      intro w1 hw1
      have hM := hw1.elim (·.m) (·.m)
      have hb1 := hM.block b hbl (by show ¬ _ = _; omega)
      have hg1 : w1.heap[g]? = W.heap[g]? := hM.block g hgl (by show ¬ _ = _; omega)
      have q1 := cell_of (hb1.trans HB.out) 1
      have z0 := (World.cell?_of_block (w := W) hg1).trans HZ.out.1
      have z1 := (World.cell?_of_block (w := W) hg1).trans HZ.out.2
      clear hM hb1 hg1 hw1
      go_wp2_with (fail)
      first | (refine ⟨?_, id, id⟩; exact rfl) | (refine ⟨?_, fail⟩; exact rfl)
    · kernel_rfl
  refine Seq.turn (a' := ?_) ?_ ?_ ?_
  rotate_left
  ·
    intro w1 hw1
    have hM := hw1.m
    have hc := hw1.c
    have q0 := cell_of hc 0
    have qf := free_of hc
    have r1 := cell_of hc 1
    have hb1 := hM.block b hbl (by show ¬ _ = _; omega)
    have HC1 := hid hc
    have HM := hid hM
    clear hw1 hM hc hb1
    go_wp2_with fail
    refine ⟨?_, ⟨HM.out.trans (O.mod_set2 _ _ _ _) (fun _ _ h => h), O.set2_at HC1.out⟩⟩
    exact rfl
  · kernel_rfl
  iterate 0
    refine Seq.calm (a' := ?_) (by decide) ?_ ?_ ?_
    rotate_left
    ·
      intro w1 hw1
      have hM := hw1.elim (·.m) (·.m)
      have hb1 := hM.block b hbl (by show ¬ _ = _; omega)
      have hg1 : w1.heap[g]? = W.heap[g]? := hM.block g hgl (by show ¬ _ = _; omega)
      have q1 := cell_of (hb1.trans HB.out) 1
      have z0 := (World.cell?_of_block (w := W) hg1).trans HZ.out.1
      have z1 := (World.cell?_of_block (w := W) hg1).trans HZ.out.2
      clear hM hb1 hg1 hw1
      go_wp2_with (fail)
      first | (refine ⟨?_, id, id⟩; exact rfl) | (refine ⟨?_, fail⟩; exact rfl)
    · kernel_rfl
  refine SeqI.nil ?_
  intro D w1 hD hI
  replace hI := hI.done (hD 14 (by omega))
  clear hD
  dsimp only [List.drop]
  have q0 := cell_of hI.c 0
  have q1 := cell_of hI.c 1
  have hM := hI.m
  clear hI
  go_wp2_with fail
  refine bodyPost_ret (v := (.agg #[.int .i64 r.1, .int .u32 r.2])) (by simp [results, Tryz.results37, go_sem, q0, q1]) rfl ⟨rfl, ?_⟩
  exact below_mods HBL.out hM (Nat.le_refl _) (by have := HBL.out.size; have := lt_of_block H0.out; omega)
end
end Go.Proofs.YtnngicopphiaaaaGreatDoor.T

namespace Go.Proofs.YtnngicopphiaaaaGreatDoor.T
set_option maxRecDepth 8000
open Go.ChangeShapes Go.WideShapes Go.ChangeAt Go.RowKit Go.Burg
open Go.Burg.Lk
def lastV (s : SpotP) (g wc k : Nat) : Value := .slice (some ⟨g, (s.way.length - k) * 2, none⟩) k (wc - (s.way.length - k))
theorem set3_at {T : TypeId} {w : World} {c : Nat} {a0 a1 a2 : Value} (b0 b1 b2 : Value) (h : w.heap[c]? = some (.cells #[a0, a1, a2] T (0, 0))) :
    (((w.setCell ⟨c, 0, none⟩ b0).setCell ⟨c, 1, none⟩ b1).setCell ⟨c, 2, none⟩ b2).heap[c]? = some (.cells #[b0, b1, b2] T (0, 0)) ∧ Mod (· = c) w (((w.setCell ⟨c, 0, none⟩ b0).setCell ⟨c, 1, none⟩ b1).setCell ⟨c, 2, none⟩ b2) := by
  have stp : ∀ {A : World} (j : Nat) (v : Value), Mod (· = c) w A → Mod (· = c) w (A.setCell ⟨c, j, none⟩ v) := fun j v h => Mod.setCell (S := (· = c)) (p := ⟨c, j, none⟩) h (.inl rfl) v
  refine ⟨?_, stp _ _ (stp _ _ (stp _ _ (Mod.refl _ _)))⟩
  have := heap_set (i := 2) (v := b2) (heap_set (i := 1) (v := b1) (heap_set (i := 0) (v := b0) h))
  simpa using this
section
variable {w w' : World} {t b g wc : Nat} {s : SpotP}
set_option maxHeartbeats 1000000 in
theorem here_at (h : SpotAt w b g wc s) (hk : 1 ≤ s.way.length) (hw : s.way.length ≤ wc) :
    Calls Tryz.prog 46 #[.pointer (some ⟨t, 0, none⟩), .pointer (some ⟨b, 0, none⟩)] w fun e w' => e = .returned (.agg #[lastV s g wc 1, .slice none 0 0, .int .i64 0]) ∧ Below w.heap.size w w' := by
  have hB : Below w.heap.size w (w.alloc (.cells #[.slice none 0 0, .slice none 0 0, .int .i64 0] 47 (0, 0))) := (Below.refl _ _).alloc (Nat.le_refl _) _
  have hbl0 := lt_of_block h.h
  have h0 := heap_new w (.cells #[.slice none 0 0, .slice none 0 0, .int .i64 0] 47 (0, 0))
  have hm := h.m
  have hb := (h.keep hB).h
  generalize hW : w.alloc (.cells #[.slice none 0 0, .slice none 0 0, .int .i64 0] 47 (0, 0)) = W at *
  generalize hu : w.heap.size = u at *
  have hbl : b < W.heap.size := lt_of_block hb
  have HB := hid hb
  have H0 := hid h0
  have HW := hid hW
  have HU := hid hu
  have HBL := hid hB
  have e1 : ((s.way.length : Nat) : Int) - 1 = ((s.way.length - 1 : Nat) : Int) := by omega
  have hix : s.way.length - 1 ≤ s.way.length := by omega
  have hl : s.way.length - (s.way.length - 1) = 1 := by omega
  unfold lastV
  generalize s.way.length - 1 = ix at *
  clear h hb h0 hW hu hB
  go_enter Tryz.func46, Tryz.ntmps46
  go_wp2_with fail
  rw [HW.out, HU.out]
  refine wp_region_seqI 13 (Turn 12 (SkJ 47 u W #[.slice none 0 0, .slice none 0 0, .int .i64 0]) (SkJ 47 u W #[(.slice (some ⟨g, ix * 2, none⟩) 1 (wc - ix)), .slice none 0 0, .int .i64 0])) (by kernel_rfl) (by kernel_rfl) (by kernel_rfl) (Turn.start ⟨(Mod.refl _ _).drew, H0.out⟩) ?_
  dsimp only [List.take]
  iterate 12
    refine Seq.calm (a' := ?_) (by decide) ?_ ?_ ?_
    rotate_left
    ·
      intro w1 hw1
      have hM := hw1.elim (·.m) (·.m)
      have hb1 := hM.block b hbl (by show ¬ _ = _; omega)
      have q1 := cell_of (hb1.trans HB.out) 1
      clear hM hb1 hw1
      go_wp2_with (fail)
      first | (refine ⟨?_, id, id⟩; exact rfl) | (refine ⟨?_, fail⟩; exact rfl)
    · kernel_rfl
  refine Seq.turn (a' := ?_) ?_ ?_ ?_
  rotate_left
  ·
    intro w1 hw1
    have hM := hw1.m
    have hc := hw1.c
    have q0 := cell_of hc 0
    have q1 := cell_of hc 1
    have q2 := cell_of hc 2
    have qf := free_of hc
    have HC1 := hid hc
    have HM := hid hM
    clear hw1 hM hc
    go_wp2_with fail
    obtain ⟨m1, m2⟩ := set3_at ((.slice (some ⟨g, ix * 2, none⟩) 1 (wc - ix))) (.slice none 0 0) (.int .i64 0) HC1.out
    refine ⟨?_, ⟨HM.out.trans m2 (fun _ _ h => h), m1⟩⟩
    exact rfl
  · kernel_rfl
  iterate 0
    refine Seq.calm (a' := ?_) (by decide) ?_ ?_ ?_
    rotate_left
    ·
      intro w1 hw1
      have hM := hw1.elim (·.m) (·.m)
      have hb1 := hM.block b hbl (by show ¬ _ = _; omega)
      have q1 := cell_of (hb1.trans HB.out) 1
      clear hM hb1 hw1
      go_wp2_with (fail)
      first | (refine ⟨?_, id, id⟩; exact rfl) | (refine ⟨?_, fail⟩; exact rfl)
    · kernel_rfl
  refine SeqI.nil ?_
  intro D w1 hD hI
  replace hI := hI.done (hD 12 (by omega))
  clear hD
  dsimp only [List.drop]
  have q0 := cell_of hI.c 0
  have q1 := cell_of hI.c 1
  have q2 := cell_of hI.c 2
  have hM := hI.m
  clear hI
  go_wp2_with fail
  refine bodyPost_ret (v := .agg #[(.slice (some ⟨g, ix * 2, none⟩) 1 (wc - ix)), .slice none 0 0, .int .i64 0]) (by simp [results, Tryz.results46, go_sem, q0, q1, q2]) rfl ⟨rfl, ?_⟩
  exact below_mods HBL.out hM (Nat.le_refl _) (by have := HBL.out.size; have := lt_of_block H0.out; omega)
set_option maxHeartbeats 1000000 in
theorem split_at (h : SpotAt w b g wc s) (hk : 2 ≤ s.way.length) (hw : s.way.length ≤ wc) :
    Calls Tryz.prog 48 #[.pointer (some ⟨t, 0, none⟩), .pointer (some ⟨b, 0, none⟩)] w fun e w' => e = .returned (.agg #[lastV s g wc 2, .slice none 0 0, .int .i64 2]) ∧ Below w.heap.size w w' := by
  have hB : Below w.heap.size w (w.alloc (.cells #[.slice none 0 0, .slice none 0 0, .int .i64 0] 47 (0, 0))) := (Below.refl _ _).alloc (Nat.le_refl _) _
  have hbl0 := lt_of_block h.h
  have h0 := heap_new w (.cells #[.slice none 0 0, .slice none 0 0, .int .i64 0] 47 (0, 0))
  have hm := h.m
  have hb := (h.keep hB).h
  generalize hW : w.alloc (.cells #[.slice none 0 0, .slice none 0 0, .int .i64 0] 47 (0, 0)) = W at *
  generalize hu : w.heap.size = u at *
  have hbl : b < W.heap.size := lt_of_block hb
  have HB := hid hb
  have H0 := hid h0
  have HW := hid hW
  have HU := hid hu
  have HBL := hid hB
  have e1 : ((s.way.length : Nat) : Int) - 2 = ((s.way.length - 2 : Nat) : Int) := by omega
  have hix : s.way.length - 2 ≤ s.way.length := by omega
  have hl : s.way.length - (s.way.length - 2) = 2 := by omega
  unfold lastV
  generalize s.way.length - 2 = ix at *
  clear h hb h0 hW hu hB
  go_enter Tryz.func48, Tryz.ntmps48
  go_wp2_with fail
  rw [HW.out, HU.out]
  refine wp_region_seqI 13 (Turn 12 (SkJ 47 u W #[.slice none 0 0, .slice none 0 0, .int .i64 0]) (SkJ 47 u W #[(.slice (some ⟨g, ix * 2, none⟩) 2 (wc - ix)), .slice none 0 0, .int .i64 2])) (by kernel_rfl) (by kernel_rfl) (by kernel_rfl) (Turn.start ⟨(Mod.refl _ _).drew, H0.out⟩) ?_
  dsimp only [List.take]
  iterate 12
    refine Seq.calm (a' := ?_) (by decide) ?_ ?_ ?_
    rotate_left
    ·
      intro w1 hw1
      have hM := hw1.elim (·.m) (·.m)
      have hb1 := hM.block b hbl (by show ¬ _ = _; omega)
      have q1 := cell_of (hb1.trans HB.out) 1
      clear hM hb1 hw1
      go_wp2_with (fail)
      first | (refine ⟨?_, id, id⟩; exact rfl) | (refine ⟨?_, fail⟩; exact rfl)
    · kernel_rfl
  refine Seq.turn (a' := ?_) ?_ ?_ ?_
  rotate_left
  ·
    intro w1 hw1
    have hM := hw1.m
    have hc := hw1.c
    have q0 := cell_of hc 0
    have q1 := cell_of hc 1
    have q2 := cell_of hc 2
    have qf := free_of hc
    have HC1 := hid hc
    have HM := hid hM
    clear hw1 hM hc
    go_wp2_with fail
    obtain ⟨m1, m2⟩ := set3_at ((.slice (some ⟨g, ix * 2, none⟩) 2 (wc - ix))) (.slice none 0 0) (.int .i64 2) HC1.out
    refine ⟨?_, ⟨HM.out.trans m2 (fun _ _ h => h), m1⟩⟩
    exact rfl
  · kernel_rfl
  iterate 0
    refine Seq.calm (a' := ?_) (by decide) ?_ ?_ ?_
    rotate_left
    ·
      intro w1 hw1
      have hM := hw1.elim (·.m) (·.m)
      have hb1 := hM.block b hbl (by show ¬ _ = _; omega)
      have q1 := cell_of (hb1.trans HB.out) 1
      clear hM hb1 hw1
      go_wp2_with (fail)
      first | (refine ⟨?_, id, id⟩; exact rfl) | (refine ⟨?_, fail⟩; exact rfl)
    · kernel_rfl
  refine SeqI.nil ?_
  intro D w1 hD hI
  replace hI := hI.done (hD 12 (by omega))
  clear hD
  dsimp only [List.drop]
  have q0 := cell_of hI.c 0
  have q1 := cell_of hI.c 1
  have q2 := cell_of hI.c 2
  have hM := hI.m
  clear hI
  go_wp2_with fail
  refine bodyPost_ret (v := .agg #[(.slice (some ⟨g, ix * 2, none⟩) 2 (wc - ix)), .slice none 0 0, .int .i64 2]) (by simp [results, Tryz.results48, go_sem, q0, q1, q2]) rfl ⟨rfl, ?_⟩
  exact below_mods HBL.out hM (Nat.le_refl _) (by have := HBL.out.size; have := lt_of_block H0.out; omega)
end
end Go.Proofs.YtnngicopphiaaaaGreatDoor.T

namespace Go.Proofs.YtnngicopphiaaaaGreatDoor.T
set_option maxRecDepth 8000
open Go.ChangeShapes Go.WideShapes Go.ChangeAt Go.RowKit Go.Burg
open Go.Burg.Lk
theorem nodeB {W w2 : World} {k : Int} {cd vl pt : ByteArray} {ya za : Option Addr} {yn yc zn zc : Nat} (h : Below W.heap.size W w2) (z : w2.heap[W.heap.size]? = some (.cells #[.int .i64 0, .string ⟨#[]⟩, .string ⟨#[]⟩, .string ⟨#[]⟩, .slice none 0 0, .slice none 0 0] 53 (0, 0))) : NodeMid W ((((((w2.setCell ⟨W.heap.size, 0, none⟩ (.int .i64 k)).setCell ⟨W.heap.size, 1, none⟩ (.string cd)).setCell ⟨W.heap.size, 2, none⟩ (.string vl)).setCell ⟨W.heap.size, 3, none⟩ (.string pt)).setCell ⟨W.heap.size, 4, none⟩ (.slice ya yn yc)).setCell ⟨W.heap.size, 5, none⟩ (.slice za zn zc)) W.heap.size (.cells #[.int .i64 k, .string cd, .string vl, .string pt, .slice ya yn yc, .slice za zn zc] 53 (0, 0)) := by
  obtain ⟨m1, m2⟩ := O.set6_at (.int .i64 k) (.string cd) (.string vl) (.string pt) (.slice ya yn yc) (.slice za zn zc) z
  exact ⟨below_mods h m2 (Nat.le_refl _) h.size, Nat.le_refl _, m1⟩
set_option maxHeartbeats 4000000 in
theorem grows_at {t sb sg kb km i : Nat} {l : List (Cel Nd)} {L : List (RefK × Wd)} {tk : Int} {k : Int} {cd vl pt : ByteArray} {ya za : Option Addr} {yn yc zn zc : Nat} {pl di : Bool} {gn : Int} (slot gen : Int) (w : World) (h : TreeAt w t sb sg kb km l L tk) (hr : RoomsAt w) (hzn : zn ≤ 1000)
    (hL : S.Live l slot gen i ⟨true, ⟨k, cd, vl, pt, ⟨ya, yn, yc⟩, ⟨za, zn, zc⟩, pl, di⟩, gn⟩) (b : Bool) (hbv : b = (!pl && !(((kindOf (zn + 1) : Nat) : Int) == k))) :
    Calls Tryz.prog 87 #[.pointer (some ⟨t, 0, none⟩), .agg #[.int .i64 slot, .int .u32 gen]] w fun e w' => e = .returned (.bool b) ∧ Below w.heap.size w w' := by
  have hN := heap_new w (.cells #[.int .i64 slot, .int .u32 gen] 30 (0, 0))
  have hA := h.alloc (.cells #[.int .i64 slot, .int .u32 gen] 30 (0, 0))
  have hB : Below w.heap.size w (w.alloc (.cells #[.int .i64 slot, .int .u32 gen] 30 (0, 0))) := (Below.refl _ _).alloc (Nat.le_refl _) _
  generalize hW : w.alloc (.cells #[.int .i64 slot, .int .u32 gen] 30 (0, 0)) = W at *
  have HW := hid hW
  have HA := hid hA
  have HN := hid hN
  have HB := hid hB
  have HRM := hid hr
  have HT : Hid (∀ w1, Below W.heap.size W w1 → Calls Tryz.prog 38 #[.pointer (some ⟨t, 0, none⟩), .agg #[.int .i64 slot, .int .u32 gen]] w1 fun e w' => e = .returned (.agg #[.int .i64 k, .string cd, .string vl, .string pt, .slice ya yn yc, .slice za zn zc]) ∧ Below w1.heap.size w1 w') := hid (fun w1 hw1 => node_at slot gen w1 (HA.out.keep hw1) hL)
  have HP : Hid (∀ w1, Below W.heap.size W w1 → Calls Tryz.prog 42 #[.pointer (some ⟨t, 0, none⟩), .agg #[.int .i64 slot, .int .u32 gen]] w1 fun e w' => e = .returned (.bool pl) ∧ Below w1.heap.size w1 w') := hid (fun w1 hw1 => planted_at slot gen w1 (HA.out.keep hw1) hL)
  have c0 := cell_of HA.out.ht 0
  have n0 := cell_of HN.out 0
  have n1 := cell_of HN.out 1
  have l0 := lt_of_block HN.out
  have l1 := lt_of_block HA.out.ht
  clear hW hA hN hB h hL hr
  go_enter Tryz.func87, Tryz.ntmps87
  go_wp2_with fail
  rw [HW.out]
  go_region_with (go_at_call 38; refine (HT.out _ (by (repeat (first | exact Below.refl _ _ | assumption | with_reducible refine Below.drew ?_ | with_reducible refine below_drewN ?_ | with_reducible refine Below.setCell ?_ (by first | (simp; done) | (simp; omega)) _ | with_reducible refine Below.alloc ?_ (by first | exact Nat.le_refl _ | (simp; done) | (simp; omega)) _)))).mono ?_; rintro e w2 ⟨rfl, hw2⟩; (try (have z := (hw2.block W.heap.size (by simp)).trans (heap_new W (.cells #[.int .i64 0, .string ⟨#[]⟩, .string ⟨#[]⟩, .string ⟨#[]⟩, .slice none 0 0, .slice none 0 0] 53 (0, 0))); have z0 := cell_of z 0; have z1 := cell_of z 1; have z2 := cell_of z 2; have z3 := cell_of z 3; have z4 := cell_of z 4; have z5 := cell_of z 5; have zf := free_of z)); have HW2 : Hid (Below W.heap.size W w2) := hid (below_chain (by (repeat (first | exact Below.refl _ _ | assumption | with_reducible refine Below.drew ?_ | with_reducible refine below_drewN ?_ | with_reducible refine Below.setCell ?_ (by first | (simp; done) | (simp; omega)) _ | with_reducible refine Below.alloc ?_ (by first | exact Nat.le_refl _ | (simp; done) | (simp; omega)) _))) hw2 (by first | exact Nat.le_refl _ | (simp; done) | (simp; omega))); clear hw2)
  all_goals first | (have hmid := nodeB (k := k) (cd := cd) (vl := vl) (pt := pt) (ya := ya) (za := za) (yn := yn) (yc := yc) (zn := zn) (zc := zc) HW2.out z; generalize hE : ((((((w2.setCell ⟨W.heap.size, 0, none⟩ (.int .i64 k)).setCell ⟨W.heap.size, 1, none⟩ (.string cd)).setCell ⟨W.heap.size, 2, none⟩ (.string vl)).setCell ⟨W.heap.size, 3, none⟩ (.string pt)).setCell ⟨W.heap.size, 4, none⟩ (.slice ya yn yc)).setCell ⟨W.heap.size, 5, none⟩ (.slice za zn zc)) = w3 at hmid ⊢; generalize hEu : W.heap.size = u at hmid ⊢) | (have hmid := nmidA (o := (.cells #[.int .i64 k, .string cd, .string vl, .string pt, .slice ya yn yc, .slice za zn zc] 53 (0, 0))) HW2.out; generalize hE : w2.alloc (.cells #[.int .i64 k, .string cd, .string vl, .string pt, .slice ya yn yc, .slice za zn zc] 53 (0, 0)) = w3 at hmid ⊢; generalize hEu : w2.heap.size = u at hmid ⊢)
  all_goals
    try clear z z0 z1 z2 z3 z4 z5 zf
    clear hE hEu HT c0 n0 n1 HW2
    obtain ⟨hb3, hu, ho⟩ := hmid
    have hn := blk_below HN.out hb3 l0
    have o5 := cell_of ho 5
    have HO3 := hid ho
    have HN3 := hid hn
    have HB3 := hid hb3
    have HOF := hid (O.of_at (zn + 1) w3 (HRM.out.keep (HB.out.trans (hb3.mono HB.out.size))) (by omega))
    clear ho hn hb3
    go_wp2_with (go_at_call 110; refine HOF.out.mono ?_; rintro e w4 ⟨rfl, rfl⟩)
    cases pl
    · refine wp_region_seq 13 (fun w1 => Below (w3).heap.size (w3) w1) (by kernel_rfl) (by kernel_rfl) (by kernel_rfl) ⟨rfl, rfl, rfl, Nat.le_refl _, fun _ _ => rfl⟩ ?_
      dsimp only [List.take]
      iterate 13
        refine Seq.cons (a' := ?_) ?_ ?_ ?_
        rotate_left
        ·
          intro w1 hw1
          have t0 := cell_of ((HA.out.keep HB3.out).keep hw1).ht 0
          have hn := blk_below HN3.out hw1 (lt_of_block HN3.out)
          have n0 := cell_of hn 0
          have n1 := cell_of hn 1
          have o0 := cell_of (blk_below HO3.out hw1 (lt_of_block HO3.out)) 0
          clear hn
          go_wp2_with (go_at_call 42; refine (HP.out _ (HB3.out.trans (hw1.mono HB3.out.size))).mono ?_; rintro e w' ⟨rfl, hb'⟩; have hb := hb')
          refine ⟨?_, by first | assumption | (simpa using below_chain hw1 hb hw1.size)⟩
          exact rfl
        · kernel_rfl
      refine SeqI.nil ?_
      intro _ w1 _ hw1
      dsimp only [List.drop]
      have HW1 := hid hw1
      clear hw1
      go_wp2_with fail
      go_ret
      exact ⟨by rw [hbv]; rfl, HB.out.trans ((HB3.out.trans (HW1.out.mono HB3.out.size)).mono HB.out.size)⟩
    · refine wp_region_seq 13 (fun w1 => Below (w3).heap.size (w3) w1) (by kernel_rfl) (by kernel_rfl) (by kernel_rfl) ⟨rfl, rfl, rfl, Nat.le_refl _, fun _ _ => rfl⟩ ?_
      dsimp only [List.take]
      iterate 13
        refine Seq.cons (a' := ?_) ?_ ?_ ?_
        rotate_left
        ·
          intro w1 hw1
          have t0 := cell_of ((HA.out.keep HB3.out).keep hw1).ht 0
          have hn := blk_below HN3.out hw1 (lt_of_block HN3.out)
          have n0 := cell_of hn 0
          have n1 := cell_of hn 1
          have o0 := cell_of (blk_below HO3.out hw1 (lt_of_block HO3.out)) 0
          clear hn
          go_wp2_with (go_at_call 42; refine (HP.out _ (HB3.out.trans (hw1.mono HB3.out.size))).mono ?_; rintro e w' ⟨rfl, hb'⟩; have hb := hb')
          refine ⟨?_, by first | assumption | (simpa using below_chain hw1 hb hw1.size)⟩
          exact rfl
        · kernel_rfl
      refine SeqI.nil ?_
      intro _ w1 _ hw1
      dsimp only [List.drop]
      have HW1 := hid hw1
      clear hw1
      go_wp2_with fail
      go_ret
      exact ⟨by rw [hbv]; rfl, HB.out.trans ((HB3.out.trans (HW1.out.mono HB3.out.size)).mono HB.out.size)⟩
end Go.Proofs.YtnngicopphiaaaaGreatDoor.T

namespace Go.Proofs.YtnngicopphiaaaaGreatDoor.T
set_option maxRecDepth 8000
open Go.ChangeShapes Go.WideShapes Go.ChangeAt Go.RowKit Go.Burg
open Go.Burg.Lk
set_option maxHeartbeats 2000000 in
theorem bare_no {t sb sg kb km i : Nat} {l : List (Cel Nd)} {L : List (RefK × Wd)} {tk : Int} {k : Int} {cd vl pt : ByteArray} {ya za : Option Addr} {yn yc zn zc : Nat} {pl di : Bool} {gn : Int} {b g wc : Nat} {s : SpotP} {r : Int × Int} (w : World) (h : TreeAt w t sb sg kb km l L tk) (hr : RoomsAt w) (hzn : zn ≤ 1000)
    (hs : SpotAt w b g wc s) (hw : s.way.length ≤ wc) (hrl : s.way[s.way.length - 1]? = some r) (hL : S.Live l r.1 r.2 i ⟨true, ⟨k, cd, vl, pt, ⟨ya, yn, yc⟩, ⟨za, zn, zc⟩, pl, di⟩, gn⟩) (hb : (!pl && !(((kindOf (zn + 1) : Nat) : Int) == k)) = false) :
    Calls Tryz.prog 47 #[.pointer (some ⟨t, 0, none⟩), .pointer (some ⟨b, 0, none⟩)] w fun e w' => e = .returned (.agg #[lastV s g wc 1, .slice none 0 0, .int .i64 1]) ∧ Below w.heap.size w w' := by
  have hB : Below w.heap.size w (w.alloc (.cells #[.slice none 0 0, .slice none 0 0, .int .i64 0] 47 (0, 0))) := (Below.refl _ _).alloc (Nat.le_refl _) _
  have hbl0 := lt_of_block hs.h
  have h0 := heap_new w (.cells #[.slice none 0 0, .slice none 0 0, .int .i64 0] 47 (0, 0))
  have hm := hs.m
  have hn := hs.n
  have HUP := hid (up_at (k := 0) (hs.keep hB) hn (by simpa using hrl))
  have hb0 := hs.keep hB
  have HT := hid (h.keep hB)
  have HRM := hid (hr.keep hB)
  have HL := hid hL
  have HBV := hid hb
  generalize hW : w.alloc (.cells #[.slice none 0 0, .slice none 0 0, .int .i64 0] 47 (0, 0)) = W at *
  generalize hu : w.heap.size = u at *
  have HB := hid hb0.h
  have H0 := hid h0
  have HW := hid hW
  have HU := hid hu
  have HBL := hid hB
  have hbl : b < W.heap.size := lt_of_block HB.out
  have e1 : ((s.way.length : Nat) : Int) - 1 = ((s.way.length - 1 : Nat) : Int) := by omega
  have hix : s.way.length - 1 ≤ s.way.length := by omega
  have hl : s.way.length - (s.way.length - 1) = 1 := by omega
  unfold lastV
  generalize s.way.length - 1 = ix at *
  clear h hr hs hb0 h0 hW hu hB hL hb hrl
  go_enter Tryz.func47, Tryz.ntmps47
  go_wp2_with fail
  rw [HW.out, HU.out]
  go_wp2_with (first | (go_at_call 37; refine HUP.out.mono ?_; rintro e w2 ⟨rfl, hb2⟩; go_loud (have HGR := hid (grows_at r.1 r.2 w2 (HT.out.keep hb2) (HRM.out.keep hb2) hzn HL.out false HBV.out.symm); have HB2 := hid hb2; clear hb2)) | (go_at_call 87; refine HGR.out.mono ?_; rintro e w3 ⟨rfl, hb3⟩; go_loud (have hb23 := HB2.out.trans (hb3.mono HB2.out.size); have H03 := hid ((hb23.block _ (lt_of_block H0.out)).trans H0.out); have HB3 := hid ((hb23.block _ (lt_of_block HB.out)).trans HB.out); have HBL3 := hid (HBL.out.trans (hb23.mono (by have := HBL.out.size; have := HU.out; omega))); clear hb23 hb3)))
  refine wp_region_seqI 13 (Turn 12 (SkJ 47 u w3 #[.slice none 0 0, .slice none 0 0, .int .i64 0]) (SkJ 47 u w3 #[(.slice (some ⟨g, ix * 2, none⟩) 1 (wc - ix)), .slice none 0 0, .int .i64 1])) (by kernel_rfl) (by kernel_rfl) (by kernel_rfl) (Turn.start ⟨(Mod.refl _ _).drew, H03.out⟩) ?_
  dsimp only [List.take]
  iterate 12
    refine Seq.calm (a' := ?_) (by decide) ?_ ?_ ?_
    rotate_left
    ·
      intro w1 hw1
      have hM := hw1.elim (·.m) (·.m)
      have hb1 := hM.block b (lt_of_block HB3.out) (by show ¬ _ = _; omega)
      have q1 := cell_of (hb1.trans HB3.out) 1
      clear hM hb1 hw1
      go_wp2_with (fail)
      first | (refine ⟨?_, id, id⟩; exact rfl) | (refine ⟨?_, fail⟩; exact rfl)
    · kernel_rfl
  refine Seq.turn (a' := ?_) ?_ ?_ ?_
  rotate_left
  ·
    intro w1 hw1
    have hM := hw1.m
    have hc := hw1.c
    have q0 := cell_of hc 0
    have q1 := cell_of hc 1
    have q2 := cell_of hc 2
    have qf := free_of hc
    have HC1 := hid hc
    have HM := hid hM
    clear hw1 hM hc
    go_wp2_with fail
    obtain ⟨m1, m2⟩ := set3_at ((.slice (some ⟨g, ix * 2, none⟩) 1 (wc - ix))) (.slice none 0 0) (.int .i64 1) HC1.out
    refine ⟨?_, ⟨HM.out.trans m2 (fun _ _ h => h), m1⟩⟩
    exact rfl
  · kernel_rfl
  iterate 0
    refine Seq.calm (a' := ?_) (by decide) ?_ ?_ ?_
    rotate_left
    ·
      intro w1 hw1
      have hM := hw1.elim (·.m) (·.m)
      have hb1 := hM.block b (lt_of_block HB3.out) (by show ¬ _ = _; omega)
      have q1 := cell_of (hb1.trans HB3.out) 1
      clear hM hb1 hw1
      go_wp2_with (fail)
      first | (refine ⟨?_, id, id⟩; exact rfl) | (refine ⟨?_, fail⟩; exact rfl)
    · kernel_rfl
  refine SeqI.nil ?_
  intro D w1 hD hI
  replace hI := hI.done (hD 12 (by omega))
  clear hD
  dsimp only [List.drop]
  have q0 := cell_of hI.c 0
  have q1 := cell_of hI.c 1
  have q2 := cell_of hI.c 2
  have hM := hI.m
  clear hI
  go_wp2_with fail
  refine bodyPost_ret (v := .agg #[(.slice (some ⟨g, ix * 2, none⟩) 1 (wc - ix)), .slice none 0 0, .int .i64 1]) (by simp [results, Tryz.results47, go_sem, q0, q1, q2]) rfl ⟨rfl, ?_⟩
  exact below_mods HBL3.out hM (Nat.le_refl _) (by have := lt_of_block H03.out; omega)
end Go.Proofs.YtnngicopphiaaaaGreatDoor.T

namespace Go.Burg
open Go Go.RowKit
structure GJ (T : TypeId) (F : World → Value → Prop) (W0 : World) (c4 iL iS : Nat) (fx fd : List Nat) (R : List (Nat × Nat)) (tab : Nat → Value) (td : Nat → Value → Value) (o0 : Array Value) (o1 : Value → Array Value) (D : Nat → Bool) (xs : Nat → Value) (w : World) : Prop where
  m : Mod (· = c4) W0 w
  l : D iL = true → F w (xs iL)
  v : ∀ j, D j = true → j ∈ fx → xs j = tab j
  e : ∀ j, D j = true → j ∈ fd → D iL = true ∧ xs j = td j (xs iL)
  s : D iS = true → D iL = true
  c : w.heap[c4]? = some (.cells (cond (D iS) (o1 (xs iL)) o0) T (0, 0))
  p : ∀ i j, (i, j) ∈ R → D i = true → D j = true
def GKeeps (F : World → Value → Prop) (c4 : Nat) : Prop := ∀ w w' v, F w v → Mod (· = c4) w w' → F w' v
section
variable {T : TypeId} {F : World → Value → Prop} {W0 w w' : World} {c4 iL iS : Nat} {fx fd : List Nat} {R : List (Nat × Nat)} {tab : Nat → Value} {td : Nat → Value → Value} {o0 : Array Value} {o1 : Value → Array Value} {D : Nat → Bool} {xs : Nat → Value}
theorem mod_below {S : Nat → Prop} (h : Below w.heap.size w w') : Mod S w w' := ⟨h.os, h.tape, h.output, h.size, fun k hk _ => h.block k hk⟩
theorem GJ.start (hc : W0.heap[c4]? = some (.cells o0 T (0, 0))) : GJ T F W0 c4 iL iS fx fd R tab td o0 o1 (fun _ => false) (fun _ => undef) W0.drew :=
  ⟨(Mod.refl _ _).drew, fun h => (by cases h), fun j h => (by cases h), fun j h => (by cases h), fun h => (by cases h), hc, fun _ _ _ h => (by cases h)⟩
theorem GJ.pp (h : GJ T F W0 c4 iL iS fx fd R tab td o0 o1 D xs w) {i : Nat} (hp : ∀ j, (i, j) ∈ R → D j = true) : ∀ a b, (a, b) ∈ R → (D a || a == i) = true → (D b || b == i) = true := fun a b hab ha => by
  simp only [Bool.or_eq_true, beq_iff_eq] at ha ⊢
  rcases ha with ha | rfl
  · exact .inl (h.p a b hab ha)
  · exact .inl (hp b hab)
theorem GJ.calm (hF : GKeeps F c4) (h : GJ T F W0 c4 iL iS fx fd R tab td o0 o1 D xs w) {i : Nat} {u : Value} (h1 : i ≠ iL) (h2 : i ≠ iS) (h3 : i ∉ fd) (hu : i ∈ fx → u = tab i) (hb : Below w.heap.size w w') (hp : ∀ j, (i, j) ∈ R → D j = true := by intro j h; cases h) : GJ T F W0 c4 iL iS fx fd R tab td o0 o1 (fun j => D j || j == i) (fun j => if j = i then u else xs j) w' := by
  have hn : ¬ iL = i := fun e => h1 e.symm
  have hs : ¬ iS = i := fun e => h2 e.symm
  have eL : (D iL || iL == i) = D iL := by simp [hn]
  have eS : (D iS || iS == i) = D iS := by simp [hs]
  refine ⟨h.m.trans (mod_below hb) (fun _ _ e => e), fun e => ?_, fun j hj hr => ?_, fun j hj hr => ?_, fun e => ?_, ?_, h.pp hp⟩
  · simp only [if_neg hn]
    exact hF _ _ _ (h.l (by rwa [eL] at e)) (mod_below hb)
  · by_cases e : j = i
    · subst e; simp only [if_pos]; exact hu hr
    · simp only [if_neg e]; exact h.v j (by simpa [e] using hj) hr
  · have e : ¬ j = i := fun e => h3 (e ▸ hr)
    obtain ⟨a, b⟩ := h.e j (by simpa [e] using hj) hr
    simp only [if_neg e, if_neg hn, eL]
    exact ⟨a, b⟩
  · rw [eL]; exact h.s (by rwa [eS] at e)
  · simp only [eS, if_neg hn]
    exact (hb.block c4 (lt_of_block h.c)).trans h.c
theorem GJ.dep (h : GJ T F W0 c4 iL iS fx fd R tab td o0 o1 D xs w) {i : Nat} {u : Value} (hL : D iL = true) (h1 : i ≠ iL) (h2 : i ≠ iS) (h3 : i ∉ fx) (hu : u = td i (xs iL)) (hp : ∀ j, (i, j) ∈ R → D j = true := by intro j h; cases h) : GJ T F W0 c4 iL iS fx fd R tab td o0 o1 (fun j => D j || j == i) (fun j => if j = i then u else xs j) w := by
  have hn : ¬ iL = i := fun e => h1 e.symm
  have hs : ¬ iS = i := fun e => h2 e.symm
  have eL : (D iL || iL == i) = D iL := by simp [hn]
  have eS : (D iS || iS == i) = D iS := by simp [hs]
  refine ⟨h.m, fun e => ?_, fun j hj hr => ?_, fun j hj hr => ?_, fun e => ?_, ?_, h.pp hp⟩
  · simp only [if_neg hn]; exact h.l hL
  · have e : ¬ j = i := fun e => h3 (e ▸ hr)
    simp only [if_neg e]; exact h.v j (by simpa [e] using hj) hr
  · by_cases e : j = i
    · subst e; simp only [if_pos, if_neg hn, eL]; exact ⟨hL, hu⟩
    · obtain ⟨a, b⟩ := h.e j (by simpa [e] using hj) hr
      simp only [if_neg e, if_neg hn, eL]
      exact ⟨a, b⟩
  · rw [eL]; exact hL
  · simp only [eS, if_neg hn]; exact h.c
theorem GJ.call (h : GJ T F W0 c4 iL iS fx fd R tab td o0 o1 D xs w) (hD : D iL = false) (hne : iL ≠ iS) {u : Value} (hf : iL ∉ fx) (hd : iL ∉ fd) (hu : F w' u) (hb : Below w.heap.size w w') (hp : ∀ j, (iL, j) ∈ R → D j = true := by intro j h; cases h) : GJ T F W0 c4 iL iS fx fd R tab td o0 o1 (fun j => D j || j == iL) (fun j => if j = iL then u else xs j) w' := by
  have hs : ¬ iS = iL := fun e => hne e.symm
  have eS : (D iS || iS == iL) = D iS := by simp [hs]
  have hSf : D iS = false := by
    cases e : D iS
    · rfl
    · rw [h.s e] at hD; cases hD
  refine ⟨h.m.trans (mod_below hb) (fun _ _ e => e), fun e => ?_, fun j hj hr => ?_, fun j hj hr => ?_, fun e => by simp, ?_, h.pp hp⟩
  · simp only [if_pos]; exact hu
  · have e : ¬ j = iL := fun e => hf (e ▸ hr)
    simp only [if_neg e]; exact h.v j (by simpa [e] using hj) hr
  · have e : ¬ j = iL := fun e => hd (e ▸ hr)
    have := (h.e j (by simpa [e] using hj) hr).1
    rw [hD] at this; cases this
  · have e2 : (D iS || iS == iL) = false := by rw [eS, hSf]
    simp only [e2, cond_false]
    have := h.c
    rw [hSf] at this
    exact (hb.block c4 (lt_of_block h.c)).trans this
theorem GJ.store (hF : GKeeps F c4) (h : GJ T F W0 c4 iL iS fx fd R tab td o0 o1 D xs w) (hL : D iL = true) (hne : iL ≠ iS) {u : Value} (hf : iS ∉ fx) (hd : iS ∉ fd) (hm : Mod (· = c4) w w') (hc : w'.heap[c4]? = some (.cells (o1 (xs iL)) T (0, 0))) (hp : ∀ j, (iS, j) ∈ R → D j = true := by intro j h; cases h) : GJ T F W0 c4 iL iS fx fd R tab td o0 o1 (fun j => D j || j == iS) (fun j => if j = iS then u else xs j) w' := by
  have hn : ¬ iL = iS := hne
  have eL : (D iL || iL == iS) = D iL := by simp [hn]
  refine ⟨h.m.trans hm (fun _ _ e => e), fun e => ?_, fun j hj hr => ?_, fun j hj hr => ?_, fun e => ?_, ?_, h.pp hp⟩
  · simp only [if_neg hn]; exact hF _ _ _ (h.l hL) hm
  · have e : ¬ j = iS := fun e => hf (e ▸ hr)
    simp only [if_neg e]; exact h.v j (by simpa [e] using hj) hr
  · have e : ¬ j = iS := fun e => hd (e ▸ hr)
    obtain ⟨a, b⟩ := h.e j (by simpa [e] using hj) hr
    simp only [if_neg e, if_neg hn, eL]
    exact ⟨a, b⟩
  · rw [eL]; exact hL
  · simp only [if_neg hn, beq_self_eq_true, Bool.or_true, cond_true]; exact hc
end
end Go.Burg

namespace Go.Proofs.YtnngicopphiaaaaGreatDoor.T
set_option maxRecDepth 8000
open Go.ChangeShapes Go.WideShapes Go.ChangeAt Go.RowKit Go.Burg
open Go.Burg.Lk
theorem SpotAt.mod {w w' : World} {b g wc k : Nat} {s : SpotP} (h : SpotAt w b g wc s) (hM : Mod (· = k) w w') (h1 : b ≠ k) (h2 : g ≠ k) : SpotAt w' b g wc s :=
  ⟨(hM.block _ (lt_of_block h.h) h1).trans h.h, O.own_mod h.o hM (fun j hj e => by simp only [Value.ownBlock, Option.some.injEq] at hj; have : j = k := e; omega), h.n, h.m⟩
end Go.Proofs.YtnngicopphiaaaaGreatDoor.T
