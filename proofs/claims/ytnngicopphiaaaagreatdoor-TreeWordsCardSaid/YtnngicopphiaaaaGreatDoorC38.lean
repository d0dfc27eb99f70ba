/- Part 38 of 51 of a proof: lemmas on the functions that it reaches. -/
import Derived.Test.YtnngicopphiaaaaGreatDoorC37
import Derived.Test.YtnngicopphiaaaaGreatDoorC02
import Derived.Test.YtnngicopphiaaaaGreatDoorC07
import Derived.Test.YtnngicopphiaaaaGreatDoorC32
namespace Go
section
variable {P : Program} {ops : Array Oper} {o : Oper} {a : Act}
theorem wpList_field_run {rest : List Oper} {Q : Exit → Act → World → Prop} {w : World} (hg : o.guard = none) (x : Operand) (T : TypeId) (i : Nat) (hop : o.op = .field T x i) (v v' : Value)
    (hx : a.eval x = v) (hrun : (Instr.field T v i).run P w = .ok v' w) (hK : wpList P ops Q rest (a.put o.dst v') w) : wpList P ops Q (o :: rest) a w := by
  refine wpList_plain hg fun K' hK' => ?_
  unfold Oper.wp
  simp [execOp, hop, hx, hrun, Result.andThen]
  exact hK' _ _ hK
end
end Go
namespace Go.Proofs.YtnngicopphiaaaaGreatDoor.T
set_option maxRecDepth 8000
open Go.ChangeShapes Go.WideShapes Go.ChangeAt Go.RowKit Go.Burg
open Go.Burg.Lk
section
variable {w w' : World} {t sb sg kb km : Nat} {P : List (Cel PNd)} {L : List (RefK × Wd)} {tk : Int}
set_option maxRecDepth 20000 in
set_option maxHeartbeats 4000000 in
theorem left_0 {iu k b g wc : Nat} {s : SpotP} {r u0 : Int × Int} {pt : ByteArray} {ka kz : Kd} {pl di : Bool} (w : World) (h : TreeP w t sb sg kb km P L tk) (hs : SpotAt w b g wc s) (h2 : 2 ≤ s.way.length) (hrl : s.way[s.way.length - 1]? = some r) (hul : s.way[s.way.length - 1 - 1]? = some u0)
    (hqu : LiveP P u0.1 u0.2 iu ⟨.inner k pt [ka, kz], pl, di⟩) (e1 : (ka.s == r.1) = true) (e2 : (ka.g == r.2) = true) :
    Calls Tryz.prog 86 #[.pointer (some ⟨t, 0, none⟩), .pointer (some ⟨b, 0, none⟩)] w fun e w' => e = .returned (.agg #[.int .i64 kz.s, .int .u32 kz.g]) ∧ Below w.heap.size w w' := by
  have b0 := heap_new w (.cells #[.int .i64 0, .int .u32 0] 30 (0, 0))
  have hB : Below w.heap.size w (w.alloc (.cells #[.int .i64 0, .int .u32 0] 30 (0, 0))) := (Below.refl _ _).alloc (Nat.le_refl _) _
  obtain ⟨l, ya, yc, za, zc, hTA, hRE, hL, hN, hMB⟩ := h.inner hqu
  obtain ⟨gz, rfl, lz, cz⟩ := O.own_cells hN.z (by simp)
  have HT := hid (hTA.keep hB)
  have HL := hid hL
  have HS := hid (hs.keep hB)
  have HU0 := hid (fun w1 (hs1 : SpotAt w1 b g wc s) => up_at (k := 0) hs1 (by omega) (by simpa using hrl))
  have HU1 := hid (fun w1 (hs1 : SpotAt w1 b g wc s) => up_at (k := 1) hs1 (by omega) hul)
  have q0 := (World.cell?_of_block (w := w) (hB.block gz lz)).trans (cz 0 _ rfl)
  have q1 := (World.cell?_of_block (w := w) (hB.block gz lz)).trans (cz 1 _ rfl)
  have q2 := (World.cell?_of_block (w := w) (hB.block gz lz)).trans (cz 2 _ rfl)
  have q3 := (World.cell?_of_block (w := w) (hB.block gz lz)).trans (cz 3 _ rfl)
  have HQ := hid (And.intro q0 (And.intro q1 (And.intro q2 q3)))
  have lz' : gz < (w.alloc (.cells #[.int .i64 0, .int .u32 0] 30 (0, 0))).heap.size := Nat.lt_of_lt_of_le lz hB.size
  generalize hW : w.alloc (.cells #[.int .i64 0, .int .u32 0] 30 (0, 0)) = W at *
  generalize hu : w.heap.size = u at *
  have HW := hid hW
  have HU := hid hu
  have HB := hid hB
  have B0 := hid b0
  clear h hs h2 hrl hul hqu hTA hRE hL hN hMB cz q0 q1 q2 q3 lz hB b0 hW hu
  go_enter Tryz.func86, Tryz.ntmps86
  go_wp2_with fail
  rw [HW.out, HU.out]
  refine wp_region_seq 8 (fun w1 => Below (W).heap.size (W) w1) (by kernel_rfl) (by kernel_rfl) (by kernel_rfl) ⟨rfl, rfl, rfl, Nat.le_refl _, fun _ _ => rfl⟩ ?_
  dsimp only [List.take]
  iterate 6
    refine Seq.cons (a' := ?_) ?_ ?_ ?_
    rotate_left
    ·
      intro w1 hw1
      skip
      go_wp2_with (first | (go_at_call 37; refine (HU1.out _ (HS.out.keep hw1)).mono ?_; rintro e w' ⟨rfl, hb⟩) | (go_at_call 38; refine (node_at u0.1 u0.2 w1 (HT.out.keep hw1) HL.out).mono ?_; rintro e w' ⟨rfl, hb⟩))
      refine ⟨?_, by first | assumption | (simpa using below_chain hw1 hb hw1.size)⟩
      exact rfl
    · kernel_rfl
  refine Seq.cons (a' := ?_) ?_ ?_ ?_
  rotate_left
  ·
    intro w1 hw1
    skip
    refine wpList_field_run rfl (.tmp 11) 53 5 rfl _ ((.slice (some ⟨gz, 0, none⟩) 2 zc)) rfl rfl ?_
    go_wp2_with fail
    refine ⟨?_, by first | assumption | (simpa using below_chain hw1 hb hw1.size)⟩
    exact rfl
  · kernel_rfl
  iterate 1
    refine Seq.cons (a' := ?_) ?_ ?_ ?_
    rotate_left
    ·
      intro w1 hw1
      skip
      go_wp2_with (first | (go_at_call 37; refine (HU1.out _ (HS.out.keep hw1)).mono ?_; rintro e w' ⟨rfl, hb⟩) | (go_at_call 38; refine (node_at u0.1 u0.2 w1 (HT.out.keep hw1) HL.out).mono ?_; rintro e w' ⟨rfl, hb⟩))
      refine ⟨?_, by first | assumption | (simpa using below_chain hw1 hb hw1.size)⟩
      exact rfl
    · kernel_rfl
  refine SeqI.nil ?_
  intro _ w1 _ hw1
  dsimp only [List.drop]
  have hw0 := hw1
  obtain ⟨W1, hW1⟩ : ∃ W1, W1 = w1 := ⟨_, rfl⟩
  subst hW1
  have HB1 := hid hw0
  clear hw1 hw0
  go_wp2_with fail
  refine wp_region_seq 6 (fun w1 => Below (W1).heap.size (W1) w1) (by kernel_rfl) (by kernel_rfl) (by kernel_rfl) ⟨rfl, rfl, rfl, Nat.le_refl _, fun _ _ => rfl⟩ ?_
  dsimp only [List.take]
  iterate 6
    refine Seq.cons (a' := ?_) ?_ ?_ ?_
    rotate_left
    ·
      intro w1 hw1
      have hbk := HB1.out.trans (hw1.mono HB1.out.size); have c0 := (World.cell?_of_block (w := W) (hbk.block gz lz')).trans HQ.out.1; have c1 := (World.cell?_of_block (w := W) (hbk.block gz lz')).trans HQ.out.2.1; clear hbk
      go_wp2_with (first | (go_at_call 37; refine (HU0.out _ (HS.out.keep (HB1.out.trans (hw1.mono HB1.out.size)))).mono ?_; rintro e w' ⟨rfl, hb⟩))
      refine ⟨?_, by first | assumption | (simpa using below_chain hw1 hb hw1.size)⟩
      exact rfl
    · kernel_rfl
  refine SeqI.nil ?_
  intro _ w1 _ hw1
  dsimp only [List.drop]
  have hbk := HB1.out.trans (hw1.mono HB1.out.size)
  have c0 := (World.cell?_of_block (w := W) (hbk.block gz lz')).trans HQ.out.1
  have c1 := (World.cell?_of_block (w := W) (hbk.block gz lz')).trans HQ.out.2.1
  have c2 := (World.cell?_of_block (w := W) (hbk.block gz lz')).trans HQ.out.2.2.1
  have c3 := (World.cell?_of_block (w := W) (hbk.block gz lz')).trans HQ.out.2.2.2
  have hu1 := (hbk.block u (lt_of_block B0.out)).trans B0.out
  have v0 := cell_of hu1 0
  have v1 := cell_of hu1 1
  have HV1 := hid hu1
  have uf := free_of hu1
  have HBK := hid hbk
  clear hbk hw1 HB1
  clear hu1
  go_wp2_with fail
  have m1 : ((w1.setCell ⟨u, 0, none⟩ (.int .i64 kz.s)).setCell ⟨u, 1, none⟩ (.int .u32 kz.g)).heap[u]? = some (.cells #[.int .i64 kz.s, .int .u32 kz.g] 30 (0, 0)) := set_at (set_at (cs' := #[.int .i64 kz.s, .int .u32 0]) HV1.out rfl) rfl
  have q0 := cell_of m1 0
  have q1 := cell_of m1 1
  have hbz := HB.out.size
  refine bodyPost_ret (v := .agg #[.int .i64 kz.s, .int .u32 kz.g]) (by simp [results, Tryz.results86, go_sem, q0, q1]) rfl ⟨rfl, ?_⟩
  exact ((HB.out.trans (HBK.out.mono (by have := HU.out; omega))).setCell (show u ≤ u from Nat.le_refl _) _).setCell (show u ≤ u from Nat.le_refl _) _
set_option maxRecDepth 20000 in
set_option maxHeartbeats 4000000 in
theorem left_1 {iu k b g wc : Nat} {s : SpotP} {r u0 : Int × Int} {pt : ByteArray} {ka kz : Kd} {pl di : Bool} (w : World) (h : TreeP w t sb sg kb km P L tk) (hs : SpotAt w b g wc s) (h2 : 2 ≤ s.way.length) (hrl : s.way[s.way.length - 1]? = some r) (hul : s.way[s.way.length - 1 - 1]? = some u0)
    (hqu : LiveP P u0.1 u0.2 iu ⟨.inner k pt [ka, kz], pl, di⟩) (e1 : (ka.s == r.1) = false) :
    Calls Tryz.prog 86 #[.pointer (some ⟨t, 0, none⟩), .pointer (some ⟨b, 0, none⟩)] w fun e w' => e = .returned (.agg #[.int .i64 ka.s, .int .u32 ka.g]) ∧ Below w.heap.size w w' := by
  have b0 := heap_new w (.cells #[.int .i64 0, .int .u32 0] 30 (0, 0))
  have hB : Below w.heap.size w (w.alloc (.cells #[.int .i64 0, .int .u32 0] 30 (0, 0))) := (Below.refl _ _).alloc (Nat.le_refl _) _
  obtain ⟨l, ya, yc, za, zc, hTA, hRE, hL, hN, hMB⟩ := h.inner hqu
  obtain ⟨gz, rfl, lz, cz⟩ := O.own_cells hN.z (by simp)
  have HT := hid (hTA.keep hB)
  have HL := hid hL
  have HS := hid (hs.keep hB)
  have HU0 := hid (fun w1 (hs1 : SpotAt w1 b g wc s) => up_at (k := 0) hs1 (by omega) (by simpa using hrl))
  have HU1 := hid (fun w1 (hs1 : SpotAt w1 b g wc s) => up_at (k := 1) hs1 (by omega) hul)
  have q0 := (World.cell?_of_block (w := w) (hB.block gz lz)).trans (cz 0 _ rfl)
  have q1 := (World.cell?_of_block (w := w) (hB.block gz lz)).trans (cz 1 _ rfl)
  have q2 := (World.cell?_of_block (w := w) (hB.block gz lz)).trans (cz 2 _ rfl)
  have q3 := (World.cell?_of_block (w := w) (hB.block gz lz)).trans (cz 3 _ rfl)
  have HQ := hid (And.intro q0 (And.intro q1 (And.intro q2 q3)))
  have lz' : gz < (w.alloc (.cells #[.int .i64 0, .int .u32 0] 30 (0, 0))).heap.size := Nat.lt_of_lt_of_le lz hB.size
  generalize hW : w.alloc (.cells #[.int .i64 0, .int .u32 0] 30 (0, 0)) = W at *
  generalize hu : w.heap.size = u at *
  have HW := hid hW
  have HU := hid hu
  have HB := hid hB
  have B0 := hid b0
  clear h hs h2 hrl hul hqu hTA hRE hL hN hMB cz q0 q1 q2 q3 lz hB b0 hW hu
  go_enter Tryz.func86, Tryz.ntmps86
  go_wp2_with fail
  rw [HW.out, HU.out]
  refine wp_region_seq 8 (fun w1 => Below (W).heap.size (W) w1) (by kernel_rfl) (by kernel_rfl) (by kernel_rfl) ⟨rfl, rfl, rfl, Nat.le_refl _, fun _ _ => rfl⟩ ?_
  dsimp only [List.take]
  iterate 6
    refine Seq.cons (a' := ?_) ?_ ?_ ?_
    rotate_left
    ·
      intro w1 hw1
      skip
      go_wp2_with (first | (go_at_call 37; refine (HU1.out _ (HS.out.keep hw1)).mono ?_; rintro e w' ⟨rfl, hb⟩) | (go_at_call 38; refine (node_at u0.1 u0.2 w1 (HT.out.keep hw1) HL.out).mono ?_; rintro e w' ⟨rfl, hb⟩))
      refine ⟨?_, by first | assumption | (simpa using below_chain hw1 hb hw1.size)⟩
      exact rfl
    · kernel_rfl
  refine Seq.cons (a' := ?_) ?_ ?_ ?_
  rotate_left
  ·
    intro w1 hw1
    skip
    refine wpList_field_run rfl (.tmp 11) 53 5 rfl _ ((.slice (some ⟨gz, 0, none⟩) 2 zc)) rfl rfl ?_
    go_wp2_with fail
    refine ⟨?_, by first | assumption | (simpa using below_chain hw1 hb hw1.size)⟩
    exact rfl
  · kernel_rfl
  iterate 1
    refine Seq.cons (a' := ?_) ?_ ?_ ?_
    rotate_left
    ·
      intro w1 hw1
      skip
      go_wp2_with (first | (go_at_call 37; refine (HU1.out _ (HS.out.keep hw1)).mono ?_; rintro e w' ⟨rfl, hb⟩) | (go_at_call 38; refine (node_at u0.1 u0.2 w1 (HT.out.keep hw1) HL.out).mono ?_; rintro e w' ⟨rfl, hb⟩))
      refine ⟨?_, by first | assumption | (simpa using below_chain hw1 hb hw1.size)⟩
      exact rfl
    · kernel_rfl
  refine SeqI.nil ?_
  intro _ w1 _ hw1
  dsimp only [List.drop]
  have hw0 := hw1
  obtain ⟨W1, hW1⟩ : ∃ W1, W1 = w1 := ⟨_, rfl⟩
  subst hW1
  have HB1 := hid hw0
  clear hw1 hw0
  go_wp2_with fail
  refine wp_region_seq 6 (fun w1 => Below (W1).heap.size (W1) w1) (by kernel_rfl) (by kernel_rfl) (by kernel_rfl) ⟨rfl, rfl, rfl, Nat.le_refl _, fun _ _ => rfl⟩ ?_
  dsimp only [List.take]
  iterate 6
    refine Seq.cons (a' := ?_) ?_ ?_ ?_
    rotate_left
    ·
      intro w1 hw1
      have hbk := HB1.out.trans (hw1.mono HB1.out.size); have c0 := (World.cell?_of_block (w := W) (hbk.block gz lz')).trans HQ.out.1; have c1 := (World.cell?_of_block (w := W) (hbk.block gz lz')).trans HQ.out.2.1; clear hbk
      go_wp2_with (first | (go_at_call 37; refine (HU0.out _ (HS.out.keep (HB1.out.trans (hw1.mono HB1.out.size)))).mono ?_; rintro e w' ⟨rfl, hb⟩))
      refine ⟨?_, by first | assumption | (simpa using below_chain hw1 hb hw1.size)⟩
      exact rfl
    · kernel_rfl
  refine SeqI.nil ?_
  intro _ w1 _ hw1
  dsimp only [List.drop]
  have hbk := HB1.out.trans (hw1.mono HB1.out.size)
  have c0 := (World.cell?_of_block (w := W) (hbk.block gz lz')).trans HQ.out.1
  have c1 := (World.cell?_of_block (w := W) (hbk.block gz lz')).trans HQ.out.2.1
  have c2 := (World.cell?_of_block (w := W) (hbk.block gz lz')).trans HQ.out.2.2.1
  have c3 := (World.cell?_of_block (w := W) (hbk.block gz lz')).trans HQ.out.2.2.2
  have hu1 := (hbk.block u (lt_of_block B0.out)).trans B0.out
  have v0 := cell_of hu1 0
  have v1 := cell_of hu1 1
  have HV1 := hid hu1
  have uf := free_of hu1
  have HBK := hid hbk
  clear hbk hw1 HB1
  clear hu1
  go_wp2_with fail
  have m1 : ((w1.setCell ⟨u, 0, none⟩ (.int .i64 ka.s)).setCell ⟨u, 1, none⟩ (.int .u32 ka.g)).heap[u]? = some (.cells #[.int .i64 ka.s, .int .u32 ka.g] 30 (0, 0)) := set_at (set_at (cs' := #[.int .i64 ka.s, .int .u32 0]) HV1.out rfl) rfl
  have q0 := cell_of m1 0
  have q1 := cell_of m1 1
  have hbz := HB.out.size
  refine bodyPost_ret (v := .agg #[.int .i64 ka.s, .int .u32 ka.g]) (by simp [results, Tryz.results86, go_sem, q0, q1]) rfl ⟨rfl, ?_⟩
  exact ((HB.out.trans (HBK.out.mono (by have := HU.out; omega))).setCell (show u ≤ u from Nat.le_refl _) _).setCell (show u ≤ u from Nat.le_refl _) _
set_option maxRecDepth 20000 in
set_option maxHeartbeats 4000000 in
theorem left_2 {iu k b g wc : Nat} {s : SpotP} {r u0 : Int × Int} {pt : ByteArray} {ka kz : Kd} {pl di : Bool} (w : World) (h : TreeP w t sb sg kb km P L tk) (hs : SpotAt w b g wc s) (h2 : 2 ≤ s.way.length) (hrl : s.way[s.way.length - 1]? = some r) (hul : s.way[s.way.length - 1 - 1]? = some u0)
    (hqu : LiveP P u0.1 u0.2 iu ⟨.inner k pt [ka, kz], pl, di⟩) (e1 : (ka.s == r.1) = true) (e2 : (ka.g == r.2) = false) :
    Calls Tryz.prog 86 #[.pointer (some ⟨t, 0, none⟩), .pointer (some ⟨b, 0, none⟩)] w fun e w' => e = .returned (.agg #[.int .i64 ka.s, .int .u32 ka.g]) ∧ Below w.heap.size w w' := by
  have b0 := heap_new w (.cells #[.int .i64 0, .int .u32 0] 30 (0, 0))
  have hB : Below w.heap.size w (w.alloc (.cells #[.int .i64 0, .int .u32 0] 30 (0, 0))) := (Below.refl _ _).alloc (Nat.le_refl _) _
  obtain ⟨l, ya, yc, za, zc, hTA, hRE, hL, hN, hMB⟩ := h.inner hqu
  obtain ⟨gz, rfl, lz, cz⟩ := O.own_cells hN.z (by simp)
  have HT := hid (hTA.keep hB)
  have HL := hid hL
  have HS := hid (hs.keep hB)
  have HU0 := hid (fun w1 (hs1 : SpotAt w1 b g wc s) => up_at (k := 0) hs1 (by omega) (by simpa using hrl))
  have HU1 := hid (fun w1 (hs1 : SpotAt w1 b g wc s) => up_at (k := 1) hs1 (by omega) hul)
  have q0 := (World.cell?_of_block (w := w) (hB.block gz lz)).trans (cz 0 _ rfl)
  have q1 := (World.cell?_of_block (w := w) (hB.block gz lz)).trans (cz 1 _ rfl)
  have q2 := (World.cell?_of_block (w := w) (hB.block gz lz)).trans (cz 2 _ rfl)
  have q3 := (World.cell?_of_block (w := w) (hB.block gz lz)).trans (cz 3 _ rfl)
  have HQ := hid (And.intro q0 (And.intro q1 (And.intro q2 q3)))
  have lz' : gz < (w.alloc (.cells #[.int .i64 0, .int .u32 0] 30 (0, 0))).heap.size := Nat.lt_of_lt_of_le lz hB.size
  generalize hW : w.alloc (.cells #[.int .i64 0, .int .u32 0] 30 (0, 0)) = W at *
  generalize hu : w.heap.size = u at *
  have HW := hid hW
  have HU := hid hu
  have HB := hid hB
  have B0 := hid b0
  clear h hs h2 hrl hul hqu hTA hRE hL hN hMB cz q0 q1 q2 q3 lz hB b0 hW hu
  go_enter Tryz.func86, Tryz.ntmps86
  go_wp2_with fail
  rw [HW.out, HU.out]
  refine wp_region_seq 8 (fun w1 => Below (W).heap.size (W) w1) (by kernel_rfl) (by kernel_rfl) (by kernel_rfl) ⟨rfl, rfl, rfl, Nat.le_refl _, fun _ _ => rfl⟩ ?_
  dsimp only [List.take]
  iterate 6
    refine Seq.cons (a' := ?_) ?_ ?_ ?_
    rotate_left
    ·
      intro w1 hw1
      skip
      go_wp2_with (first | (go_at_call 37; refine (HU1.out _ (HS.out.keep hw1)).mono ?_; rintro e w' ⟨rfl, hb⟩) | (go_at_call 38; refine (node_at u0.1 u0.2 w1 (HT.out.keep hw1) HL.out).mono ?_; rintro e w' ⟨rfl, hb⟩))
      refine ⟨?_, by first | assumption | (simpa using below_chain hw1 hb hw1.size)⟩
      exact rfl
    · kernel_rfl
  refine Seq.cons (a' := ?_) ?_ ?_ ?_
  rotate_left
  ·
    intro w1 hw1
    skip
    refine wpList_field_run rfl (.tmp 11) 53 5 rfl _ ((.slice (some ⟨gz, 0, none⟩) 2 zc)) rfl rfl ?_
    go_wp2_with fail
    refine ⟨?_, by first | assumption | (simpa using below_chain hw1 hb hw1.size)⟩
    exact rfl
  · kernel_rfl
  iterate 1
    refine Seq.cons (a' := ?_) ?_ ?_ ?_
    rotate_left
    ·
      intro w1 hw1
      skip
      go_wp2_with (first | (go_at_call 37; refine (HU1.out _ (HS.out.keep hw1)).mono ?_; rintro e w' ⟨rfl, hb⟩) | (go_at_call 38; refine (node_at u0.1 u0.2 w1 (HT.out.keep hw1) HL.out).mono ?_; rintro e w' ⟨rfl, hb⟩))
      refine ⟨?_, by first | assumption | (simpa using below_chain hw1 hb hw1.size)⟩
      exact rfl
    · kernel_rfl
  refine SeqI.nil ?_
  intro _ w1 _ hw1
  dsimp only [List.drop]
  have hw0 := hw1
  obtain ⟨W1, hW1⟩ : ∃ W1, W1 = w1 := ⟨_, rfl⟩
  subst hW1
  have HB1 := hid hw0
  clear hw1 hw0
  go_wp2_with fail
  refine wp_region_seq 6 (fun w1 => Below (W1).heap.size (W1) w1) (by kernel_rfl) (by kernel_rfl) (by kernel_rfl) ⟨rfl, rfl, rfl, Nat.le_refl _, fun _ _ => rfl⟩ ?_
  dsimp only [List.take]
  iterate 6
    refine Seq.cons (a' := ?_) ?_ ?_ ?_
    rotate_left
    ·
      intro w1 hw1
      have hbk := HB1.out.trans (hw1.mono HB1.out.size); have c0 := (World.cell?_of_block (w := W) (hbk.block gz lz')).trans HQ.out.1; have c1 := (World.cell?_of_block (w := W) (hbk.block gz lz')).trans HQ.out.2.1; clear hbk
      go_wp2_with (first | (go_at_call 37; refine (HU0.out _ (HS.out.keep (HB1.out.trans (hw1.mono HB1.out.size)))).mono ?_; rintro e w' ⟨rfl, hb⟩))
      refine ⟨?_, by first | assumption | (simpa using below_chain hw1 hb hw1.size)⟩
      exact rfl
    · kernel_rfl
  refine SeqI.nil ?_
  intro _ w1 _ hw1
  dsimp only [List.drop]
  have hbk := HB1.out.trans (hw1.mono HB1.out.size)
  have c0 := (World.cell?_of_block (w := W) (hbk.block gz lz')).trans HQ.out.1
  have c1 := (World.cell?_of_block (w := W) (hbk.block gz lz')).trans HQ.out.2.1
  have c2 := (World.cell?_of_block (w := W) (hbk.block gz lz')).trans HQ.out.2.2.1
  have c3 := (World.cell?_of_block (w := W) (hbk.block gz lz')).trans HQ.out.2.2.2
  have hu1 := (hbk.block u (lt_of_block B0.out)).trans B0.out
  have v0 := cell_of hu1 0
  have v1 := cell_of hu1 1
  have HV1 := hid hu1
  have uf := free_of hu1
  have HBK := hid hbk
  clear hbk hw1 HB1
  clear hu1
  go_wp2_with fail
  have m1 : ((w1.setCell ⟨u, 0, none⟩ (.int .i64 ka.s)).setCell ⟨u, 1, none⟩ (.int .u32 ka.g)).heap[u]? = some (.cells #[.int .i64 ka.s, .int .u32 ka.g] 30 (0, 0)) := set_at (set_at (cs' := #[.int .i64 ka.s, .int .u32 0]) HV1.out rfl) rfl
  have q0 := cell_of m1 0
  have q1 := cell_of m1 1
  have hbz := HB.out.size
  refine bodyPost_ret (v := .agg #[.int .i64 ka.s, .int .u32 ka.g]) (by simp [results, Tryz.results86, go_sem, q0, q1]) rfl ⟨rfl, ?_⟩
  exact ((HB.out.trans (HBK.out.mono (by have := HU.out; omega))).setCell (show u ≤ u from Nat.le_refl _) _).setCell (show u ≤ u from Nat.le_refl _) _
end
end Go.Proofs.YtnngicopphiaaaaGreatDoor.T

namespace Go.Burg
open Go Go.RowKit
structure RJ (S : Nat → Prop) (P0 P1 : World → Prop) (F : World → Value → Prop) (W0 : World) (T : TypeId) (z : Array Value) (o1 : Value → Array Value) (hasL : Bool) (iL iT iA iS : Nat) (fx fd : List Nat) (tab : Nat → Value) (td : Nat → Value → Value) (D : Nat → Bool) (xs : Nat → Value) (w : World) : Prop where
  m : Mod S W0 w
  p : cond (D iT) (P1 w) (P0 w)
  l : D iL = true → F w (xs iL)
  a : D iA = true → ∃ u, W0.heap.size ≤ u ∧ xs iA = .pointer (some ⟨u, 0, none⟩) ∧ w.heap[u]? = some (.cells (cond (D iS) (o1 (xs iL)) z) T (0, 0))
  v : ∀ j, D j = true → j ∈ fx → xs j = tab j
  e : ∀ j, D j = true → j ∈ fd → D iL = true ∧ xs j = td j (xs iL)
  s : D iS = true → D iA = true ∧ (hasL = true → D iL = true)
structure RJOk (S : Nat → Prop) (P0 P1 : World → Prop) (F : World → Value → Prop) (W0 : World) (T : TypeId) (z : Array Value) : Prop where
  b0 : ∀ w w', P0 w → Below w.heap.size w w' → P0 w'
  b1 : ∀ w w', P1 w → Below w.heap.size w w' → P1 w'
  bf : ∀ w w' v, F w v → Below w.heap.size w w' → F w' v
  s0 : ∀ w w' u, W0.heap.size ≤ u → w.heap[u]? = some (.cells z T (0, 0)) → Mod (· = u) w w' → P0 w → P0 w'
  s1 : ∀ w w' u, W0.heap.size ≤ u → w.heap[u]? = some (.cells z T (0, 0)) → Mod (· = u) w w' → P1 w → P1 w'
  sf : ∀ w w' u v, W0.heap.size ≤ u → w.heap[u]? = some (.cells z T (0, 0)) → Mod (· = u) w w' → F w v → F w' v
  tf : ∀ w w' v, Mod S w w' → F w v → F w' v
  lt : ∀ k, S k → k < W0.heap.size
section
variable {S : Nat → Prop} {P0 P1 : World → Prop} {F : World → Value → Prop} {W0 w w' : World} {T : TypeId} {z : Array Value} {o1 : Value → Array Value} {hasL : Bool} {iL iT iA iS : Nat} {fx fd : List Nat} {tab : Nat → Value} {td : Nat → Value → Value} {D : Nat → Bool} {xs : Nat → Value}
theorem RJ.start (h : P0 W0.drew) : RJ S P0 P1 F W0 T z o1 hasL iL iT iA iS fx fd tab td (fun _ => false) (fun _ => undef) W0.drew :=
  ⟨(Mod.refl _ _).drew, h, fun h => (by cases h), fun h => (by cases h), fun j h => (by cases h), fun j h => (by cases h), fun h => (by cases h)⟩
theorem RJ.calm (hk : RJOk S P0 P1 F W0 T z) (h : RJ S P0 P1 F W0 T z o1 hasL iL iT iA iS fx fd tab td D xs w) {i : Nat} {u : Value} (h1 : i ≠ iL) (h2 : i ≠ iT) (h3 : i ≠ iA) (h4 : i ≠ iS) (h5 : i ∉ fd) (hu : i ∈ fx → u = tab i) (hb : Below w.heap.size w w') : RJ S P0 P1 F W0 T z o1 hasL iL iT iA iS fx fd tab td (fun j => D j || j == i) (fun j => if j = i then u else xs j) w' := by
  have n1 : ¬ iL = i := fun e => h1 e.symm
  have n2 : ¬ iT = i := fun e => h2 e.symm
  have n3 : ¬ iA = i := fun e => h3 e.symm
  have n4 : ¬ iS = i := fun e => h4 e.symm
  have e1 : (D iL || iL == i) = D iL := by simp [n1]
  have e2 : (D iT || iT == i) = D iT := by simp [n2]
  have e3 : (D iA || iA == i) = D iA := by simp [n3]
  have e4 : (D iS || iS == i) = D iS := by simp [n4]
  refine ⟨h.m.trans (mod_below hb) (fun _ _ e => e), ?_, fun e => ?_, fun e => ?_, fun j hj hr => ?_, fun j hj hr => ?_, fun e => ?_⟩
  · simp only [e2]
    have := h.p
    cases hd : D iT <;> rw [hd] at this
    · exact hk.b0 _ _ this hb
    · exact hk.b1 _ _ this hb
  · simp only [if_neg n1]
    exact hk.bf _ _ _ (h.l (by rwa [e1] at e)) hb
  · obtain ⟨b, q1, q2, q3⟩ := h.a (by rwa [e3] at e)
    simp only [e4, if_neg n1, if_neg n3]
    exact ⟨b, q1, q2, (hb.block b (lt_of_block q3)).trans q3⟩
  · by_cases e : j = i
    · subst e; simp only [if_pos]; exact hu hr
    · simp only [if_neg e]; exact h.v j (by simpa [e] using hj) hr
  · have e : ¬ j = i := fun e => h5 (e ▸ hr)
    obtain ⟨a, b⟩ := h.e j (by simpa [e] using hj) hr
    simp only [if_neg e, if_neg n1, e1]
    exact ⟨a, b⟩
  · rw [e1, e3]; exact h.s (by rwa [e4] at e)
theorem RJ.dep (h : RJ S P0 P1 F W0 T z o1 hasL iL iT iA iS fx fd tab td D xs w) {i : Nat} {u : Value} (hL : D iL = true) (h1 : i ≠ iL) (h2 : i ≠ iT) (h3 : i ≠ iA) (h4 : i ≠ iS) (h5 : i ∉ fx) (hu : u = td i (xs iL)) : RJ S P0 P1 F W0 T z o1 hasL iL iT iA iS fx fd tab td (fun j => D j || j == i) (fun j => if j = i then u else xs j) w := by
  have n1 : ¬ iL = i := fun e => h1 e.symm
  have n2 : ¬ iT = i := fun e => h2 e.symm
  have n3 : ¬ iA = i := fun e => h3 e.symm
  have n4 : ¬ iS = i := fun e => h4 e.symm
  have e1 : (D iL || iL == i) = D iL := by simp [n1]
  have e2 : (D iT || iT == i) = D iT := by simp [n2]
  have e3 : (D iA || iA == i) = D iA := by simp [n3]
  have e4 : (D iS || iS == i) = D iS := by simp [n4]
  refine ⟨h.m, by simp only [e2]; exact h.p, fun e => ?_, fun e => ?_, fun j hj hr => ?_, fun j hj hr => ?_, fun e => ?_⟩
  · simp only [if_neg n1]; exact h.l hL
  · obtain ⟨b, q1, q2, q3⟩ := h.a (by rwa [e3] at e)
    simp only [e4, if_neg n1, if_neg n3]
    exact ⟨b, q1, q2, q3⟩
  · have e : ¬ j = i := fun e => h5 (e ▸ hr)
    simp only [if_neg e]; exact h.v j (by simpa [e] using hj) hr
  · by_cases e : j = i
    · subst e; simp only [if_pos, if_neg n1, e1]; exact ⟨hL, hu⟩
    · obtain ⟨a, b⟩ := h.e j (by simpa [e] using hj) hr
      simp only [if_neg e, if_neg n1, e1]
      exact ⟨a, b⟩
  · rw [e1, e3]; exact h.s (by rwa [e4] at e)
theorem RJ.call (hk : RJOk S P0 P1 F W0 T z) (h : RJ S P0 P1 F W0 T z o1 hasL iL iT iA iS fx fd tab td D xs w) (hh : hasL = true ∨ ∀ a b, o1 a = o1 b) (hD : D iL = false) (h2 : iL ≠ iT) (h3 : iL ≠ iA) (h4 : iL ≠ iS) (hf : iL ∉ fx) (hd : iL ∉ fd) {u : Value} (hu : F w' u) (hb : Below w.heap.size w w') : RJ S P0 P1 F W0 T z o1 hasL iL iT iA iS fx fd tab td (fun j => D j || j == iL) (fun j => if j = iL then u else xs j) w' := by
  have n2 : ¬ iT = iL := fun e => h2 e.symm
  have n3 : ¬ iA = iL := fun e => h3 e.symm
  have n4 : ¬ iS = iL := fun e => h4 e.symm
  have e2 : (D iT || iT == iL) = D iT := by simp [n2]
  have e3 : (D iA || iA == iL) = D iA := by simp [n3]
  have e4 : (D iS || iS == iL) = D iS := by simp [n4]
  refine ⟨h.m.trans (mod_below hb) (fun _ _ e => e), ?_, fun e => ?_, fun e => ?_, fun j hj hr => ?_, fun j hj hr => ?_, fun e => ?_⟩
  · simp only [e2]
    have := h.p
    cases hd : D iT <;> rw [hd] at this
    · exact hk.b0 _ _ this hb
    · exact hk.b1 _ _ this hb
  · simp only [if_pos]; exact hu
  · obtain ⟨b, q1, q2, q3⟩ := h.a (by rwa [e3] at e)
    have ec : cond (D iS) (o1 u) z = cond (D iS) (o1 (xs iL)) z := by
      cases hs : D iS
      · rfl
      · rcases hh with hh | hh
        · rw [(h.s hs).2 hh] at hD; cases hD
        · exact hh _ _
    simp only [e4, if_pos, if_neg n3]
    rw [ec]
    exact ⟨b, q1, q2, (hb.block b (lt_of_block q3)).trans q3⟩
  · have e : ¬ j = iL := fun e => hf (e ▸ hr)
    simp only [if_neg e]; exact h.v j (by simpa [e] using hj) hr
  · have e : ¬ j = iL := fun e => hd (e ▸ hr)
    have := (h.e j (by simpa [e] using hj) hr).1
    rw [hD] at this; cases this
  · rw [e4] at e
    rw [e3]
    exact ⟨(h.s e).1, fun _ => by simp⟩
theorem RJ.turn (hk : RJOk S P0 P1 F W0 T z) (h : RJ S P0 P1 F W0 T z o1 hasL iL iT iA iS fx fd tab td D xs w) (h1 : iT ≠ iL) (h3 : iT ≠ iA) (h4 : iT ≠ iS) (h5 : iT ∉ fd) {u : Value} (hu : iT ∈ fx → u = tab iT) (hp : P1 w') (hm : Mod S w w') : RJ S P0 P1 F W0 T z o1 hasL iL iT iA iS fx fd tab td (fun j => D j || j == iT) (fun j => if j = iT then u else xs j) w' := by
  have n1 : ¬ iL = iT := fun e => h1 e.symm
  have n3 : ¬ iA = iT := fun e => h3 e.symm
  have n4 : ¬ iS = iT := fun e => h4 e.symm
  have e1 : (D iL || iL == iT) = D iL := by simp [n1]
  have e3 : (D iA || iA == iT) = D iA := by simp [n3]
  have e4 : (D iS || iS == iT) = D iS := by simp [n4]
  refine ⟨h.m.trans hm (fun _ _ e => e), by simp; exact hp, fun e => ?_, fun e => ?_, fun j hj hr => ?_, fun j hj hr => ?_, fun e => ?_⟩
  · simp only [if_neg n1]
    exact hk.tf _ _ _ hm (h.l (by rwa [e1] at e))
  · obtain ⟨b, q1, q2, q3⟩ := h.a (by rwa [e3] at e)
    simp only [e4, if_neg n1, if_neg n3]
    exact ⟨b, q1, q2, (hm.block b (lt_of_block q3) (fun hs => by have := hk.lt b hs; omega)).trans q3⟩
  · by_cases e : j = iT
    · subst e; simp only [if_pos]; exact hu hr
    · simp only [if_neg e]; exact h.v j (by simpa [e] using hj) hr
  · have e : ¬ j = iT := fun e => h5 (e ▸ hr)
    obtain ⟨a, b⟩ := h.e j (by simpa [e] using hj) hr
    simp only [if_neg e, if_neg n1, e1]
    exact ⟨a, b⟩
  · rw [e1, e3]; exact h.s (by rwa [e4] at e)
theorem RJ.alloc (hk : RJOk S P0 P1 F W0 T z) (h : RJ S P0 P1 F W0 T z o1 hasL iL iT iA iS fx fd tab td D xs w) (hD : D iA = false) (h1 : iA ≠ iL) (h2 : iA ≠ iT) (h4 : iA ≠ iS) (h5 : iA ∉ fd) (hf : iA ∉ fx) : RJ S P0 P1 F W0 T z o1 hasL iL iT iA iS fx fd tab td (fun j => D j || j == iA) (fun j => if j = iA then .pointer (some ⟨w.heap.size, 0, none⟩) else xs j) (w.alloc (.cells z T (0, 0))) := by
  have hb : Below w.heap.size w (w.alloc (.cells z T (0, 0))) := (Below.refl _ _).alloc (Nat.le_refl _) _
  have n1 : ¬ iL = iA := fun e => h1 e.symm
  have n2 : ¬ iT = iA := fun e => h2 e.symm
  have n4 : ¬ iS = iA := fun e => h4 e.symm
  have e1 : (D iL || iL == iA) = D iL := by simp [n1]
  have e2 : (D iT || iT == iA) = D iT := by simp [n2]
  have e4 : (D iS || iS == iA) = D iS := by simp [n4]
  have hSf : D iS = false := by
    cases e : D iS
    · rfl
    · rw [(h.s e).1] at hD; cases hD
  refine ⟨h.m.trans (mod_below hb) (fun _ _ e => e), ?_, fun e => ?_, fun e => ?_, fun j hj hr => ?_, fun j hj hr => ?_, fun e => ?_⟩
  · simp only [e2]
    have := h.p
    cases hd : D iT <;> rw [hd] at this
    · exact hk.b0 _ _ this hb
    · exact hk.b1 _ _ this hb
  · simp only [if_neg n1]
    exact hk.bf _ _ _ (h.l (by rwa [e1] at e)) hb
  · refine ⟨w.heap.size, h.m.size, by simp, ?_⟩
    have e5 : (D iS || iS == iA) = false := by rw [e4, hSf]
    simp only [e5, cond_false]
    exact heap_new _ _
  · have e : ¬ j = iA := fun e => hf (e ▸ hr)
    simp only [if_neg e]; exact h.v j (by simpa [e] using hj) hr
  · have e : ¬ j = iA := fun e => h5 (e ▸ hr)
    obtain ⟨a, b⟩ := h.e j (by simpa [e] using hj) hr
    simp only [if_neg e, if_neg n1, e1]
    exact ⟨a, b⟩
  · rw [e4, hSf] at e; cases e
theorem RJ.store (hk : RJOk S P0 P1 F W0 T z) (h : RJ S P0 P1 F W0 T z o1 hasL iL iT iA iS fx fd tab td D xs w) (hD : D iS = false) (hL : hasL = true → D iL = true) {b : Nat} (hA : D iA = true) (hx : xs iA = .pointer (some ⟨b, 0, none⟩)) (h1 : iS ≠ iL) (h2 : iS ≠ iT) (h3 : iS ≠ iA) (h5 : iS ∉ fd) (hf : iS ∉ fx) {u : Value} (hm : Mod (· = b) w w') (hc : w'.heap[b]? = some (.cells (o1 (xs iL)) T (0, 0))) : RJ S P0 P1 F W0 T z o1 hasL iL iT iA iS fx fd tab td (fun j => D j || j == iS) (fun j => if j = iS then u else xs j) w' := by
  obtain ⟨b', q1, q2, q3⟩ := h.a hA
  obtain rfl : b = b' := by rw [hx] at q2; injection q2 with q2; injection q2 with q2; injection q2
  rw [hD] at q3
  simp only [cond_false] at q3
  have n1 : ¬ iL = iS := fun e => h1 e.symm
  have n2 : ¬ iT = iS := fun e => h2 e.symm
  have n3 : ¬ iA = iS := fun e => h3 e.symm
  have e1 : (D iL || iL == iS) = D iL := by simp [n1]
  have e2 : (D iT || iT == iS) = D iT := by simp [n2]
  have e3 : (D iA || iA == iS) = D iA := by simp [n3]
  refine ⟨h.m.trans hm (fun i hi e => by have : i = b := e; omega), ?_, fun e => ?_, fun e => ?_, fun j hj hr => ?_, fun j hj hr => ?_, fun e => ?_⟩
  · simp only [e2]
    have := h.p
    cases hd : D iT <;> rw [hd] at this
    · exact hk.s0 _ _ _ q1 q3 hm this
    · exact hk.s1 _ _ _ q1 q3 hm this
  · simp only [if_neg n1]
    exact hk.sf _ _ _ _ q1 q3 hm (h.l (by rwa [e1] at e))
  · simp only [if_neg n1, if_neg n3, beq_self_eq_true, Bool.or_true, cond_true]
    exact ⟨b, q1, q2, hc⟩
  · have e : ¬ j = iS := fun e => hf (e ▸ hr)
    simp only [if_neg e]; exact h.v j (by simpa [e] using hj) hr
  · have e : ¬ j = iS := fun e => h5 (e ▸ hr)
    obtain ⟨a, b⟩ := h.e j (by simpa [e] using hj) hr
    simp only [if_neg e, if_neg n1, e1]
    exact ⟨a, b⟩
  · rw [e1, e3]; exact ⟨hA, hL⟩
end
end Go.Burg
