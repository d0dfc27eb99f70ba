/- Part 45 of 51 of a proof: lemmas on the functions that it reaches. -/
import Derived.Test.YtnngicopphiaaaaGreatDoorC44
import Derived.Test.YtnngicopphiaaaaGreatDoorC35
namespace Go.Proofs.YtnngicopphiaaaaGreatDoor.T
set_option maxRecDepth 8000
open Go.ChangeShapes Go.WideShapes Go.ChangeAt Go.RowKit Go.Burg
open Go.Burg.Lk
theorem set8_mod {T : TypeId} {w : World} {c : Nat} {a0 a1 a2 a3 a4 a5 a6 a7 : Value} (b0 b1 b2 b3 b4 b5 b6 b7 : Value) (h : w.heap[c]? = some (.cells #[a0, a1, a2, a3, a4, a5, a6, a7] T (0, 0))) :
    ((((((((w.setCell ⟨c, 0, none⟩ b0).setCell ⟨c, 1, none⟩ b1).setCell ⟨c, 2, none⟩ b2).setCell ⟨c, 3, none⟩ b3).setCell ⟨c, 4, none⟩ b4).setCell ⟨c, 5, none⟩ b5).setCell ⟨c, 6, none⟩ b6).setCell ⟨c, 7, none⟩ b7).heap[c]? = some (.cells #[b0, b1, b2, b3, b4, b5, b6, b7] T (0, 0)) ∧ Mod (· = c) w ((((((((w.setCell ⟨c, 0, none⟩ b0).setCell ⟨c, 1, none⟩ b1).setCell ⟨c, 2, none⟩ b2).setCell ⟨c, 3, none⟩ b3).setCell ⟨c, 4, none⟩ b4).setCell ⟨c, 5, none⟩ b5).setCell ⟨c, 6, none⟩ b6).setCell ⟨c, 7, none⟩ b7) := by
  refine ⟨?_, ?_⟩
  · have := heap_set (i := 7) (v := b7) (heap_set (i := 6) (v := b6) (heap_set (i := 5) (v := b5) (heap_set (i := 4) (v := b4) (heap_set (i := 3) (v := b3) (heap_set (i := 2) (v := b2) (heap_set (i := 1) (v := b1) (heap_set (i := 0) (v := b0) h)))))))
    simpa using this
  have stp : ∀ {A : World} (j : Nat) (v : Value), Mod (· = c) w A → Mod (· = c) w (A.setCell ⟨c, j, none⟩ v) := fun j v h => Mod.setCell (S := (· = c)) (p := ⟨c, j, none⟩) h (.inl rfl) v
  exact stp _ _ (stp _ _ (stp _ _ (stp _ _ (stp _ _ (stp _ _ (stp _ _ (stp _ _ (Mod.refl _ _))))))))
set_option maxRecDepth 20000 in
set_option maxHeartbeats 8000000 in
theorem Node_at {t sb sg kb km i nb nk yc zc : Nat} {l : List (Cel Nd)} {L : List (RefK × Wd)} {tk kn gn : Int} {cd vl pt : ByteArray} {ya za : Option Addr} {pl di : Bool} {xb xk : List Value} (slot gen : Int) (w : World) (h : TreeAt w t sb sg kb km l L tk) (hL : S.Live l slot gen i ⟨true, ⟨kn, cd, vl, pt, ⟨ya, nb, yc⟩, ⟨za, nk, zc⟩, pl, di⟩, gn⟩)
    (hcb : ∀ w1, Below w.heap.size w w1 → Calls Tryz.prog 49 #[.slice ya nb yc] w1 fun e w' => ∃ a c, e = .returned (.slice a nb c) ∧ w'.ownsRow w1.heap.size 5 1 (.slice a nb c) nb xb ∧ Below w1.heap.size w1 w')
    (hck : ∀ w1, Below w.heap.size w w1 → Calls Tryz.prog 50 #[.slice za nk zc] w1 fun e w' => ∃ a c, e = .returned (.slice a nk c) ∧ w'.ownsRow w1.heap.size 30 2 (.slice a nk c) nk xk ∧ Below w1.heap.size w1 w') :
    Calls Tryz.prog 18 #[.pointer (some ⟨t, 0, none⟩), .agg #[.int .i64 slot, .int .u32 gen]] w fun e w' => ∃ a c a' c', e = .returned (.tuple #[.agg #[.int .i64 kn, .string cd, .string vl, .string pt, .slice a nb c, .slice a' nk c'], .bool true]) ∧ w'.ownsRow w.heap.size 5 1 (.slice a nb c) nb xb ∧ w'.ownsRow w.heap.size 30 2 (.slice a' nk c') nk xk ∧ Below w.heap.size w w' := by
  have hs1 : (w.alloc (.cells #[.int .i64 slot, .int .u32 gen] 30 (0, 0))).heap.size = w.heap.size + 1 := by simp
  have hN := blk_alloc (o' := (.cells #[.int .i64 0, .string ⟨#[]⟩, .string ⟨#[]⟩, .string ⟨#[]⟩, .slice none 0 0, .slice none 0 0] 53 (0, 0))) (heap_new w (.cells #[.int .i64 slot, .int .u32 gen] 30 (0, 0)))
  have hZ := heap_new (w.alloc (.cells #[.int .i64 slot, .int .u32 gen] 30 (0, 0))) (.cells #[.int .i64 0, .string ⟨#[]⟩, .string ⟨#[]⟩, .string ⟨#[]⟩, .slice none 0 0, .slice none 0 0] 53 (0, 0))
  rw [hs1] at hZ
  have hB : Below w.heap.size w ((w.alloc (.cells #[.int .i64 slot, .int .u32 gen] 30 (0, 0))).alloc (.cells #[.int .i64 0, .string ⟨#[]⟩, .string ⟨#[]⟩, .string ⟨#[]⟩, .slice none 0 0, .slice none 0 0] 53 (0, 0))) := ((Below.refl _ _).alloc (Nat.le_refl _) _).alloc (by simp) _
  have hTM := tmade_at ((w.alloc (.cells #[.int .i64 slot, .int .u32 gen] 30 (0, 0))).alloc (.cells #[.int .i64 0, .string ⟨#[]⟩, .string ⟨#[]⟩, .string ⟨#[]⟩, .slice none 0 0, .slice none 0 0] 53 (0, 0))) (h.keep hB).ht
  generalize hW : (w.alloc (.cells #[.int .i64 slot, .int .u32 gen] 30 (0, 0))).alloc (.cells #[.int .i64 0, .string ⟨#[]⟩, .string ⟨#[]⟩, .string ⟨#[]⟩, .slice none 0 0, .slice none 0 0] 53 (0, 0)) = W at *
  generalize hwz : w.heap.size = z0 at *
  have HW := hid hW
  have HWZ := hid hwz
  have HA := hid ((h.alloc (.cells #[.int .i64 slot, .int .u32 gen] 30 (0, 0))).alloc (.cells #[.int .i64 0, .string ⟨#[]⟩, .string ⟨#[]⟩, .string ⟨#[]⟩, .slice none 0 0, .slice none 0 0] 53 (0, 0)))
  rw [hW] at HA
  have HN := hid hN
  have HZ := hid hZ
  have HB := hid hB
  have HL := hid hL
  have HTM := hid hTM
  have HCB := hid hcb
  have HCK := hid hck
  clear hW hwz hN hZ hB h hL hTM hcb hck hs1
  go_enter Tryz.func18, Tryz.ntmps18
  go_wp2_with fail
  try rw [HW.out, HWZ.out]
  go_wp2_with (go_at_call 23; refine HTM.out.mono ?_; rintro e w' ⟨rfl, rfl⟩)
  have HOK := hid (NJOk.calm (W0 := W) (T := 61) (z := #[.int .i64 0, .string ⟨#[]⟩, .string ⟨#[]⟩, .string ⟨#[]⟩, .slice none 0 0, .slice none 0 0, .bool false, .bool false]) (o := #[.int .i64 kn, .string cd, .string vl, .string pt, .slice ya nb yc, .slice za nk zc, .bool pl, .bool di]) (dl := fun _ => []))
  refine wp_region_val 13 (NJ (fun _ => False) (fun _ => True) (fun _ => True) (fun _ _ _ => True) W 61 #[.int .i64 0, .string ⟨#[]⟩, .string ⟨#[]⟩, .string ⟨#[]⟩, .slice none 0 0, .slice none 0 0, .bool false, .bool false] (fun _ => #[.int .i64 kn, .string cd, .string vl, .string pt, .slice ya nb yc, .slice za nk zc, .bool pl, .bool di]) [] [] 99 10 11 [0, 1, 2, 3, 4, 5, 6, 7, 8, 9, 12] [] (fun _ => []) (fun j' => ([.pointer (some ⟨t, 0, none⟩), .pointer (some ⟨t, 0, none⟩), .pointer (some ⟨t, 0, none⟩), .pointer (some ⟨t, 0, none⟩), .pointer (some ⟨sb, 0, none⟩), .agg #[.int .i64 slot, .int .u32 gen], .tuple #[.agg #[.int .i64 kn, .string cd, .string vl, .string pt, .slice ya nb yc, .slice za nk zc, .bool pl, .bool di], .bool true], .tuple #[.agg #[.int .i64 kn, .string cd, .string vl, .string pt, .slice ya nb yc, .slice za nk zc, .bool pl, .bool di], .bool true], .agg #[.int .i64 kn, .string cd, .string vl, .string pt, .slice ya nb yc, .slice za nk zc, .bool pl, .bool di], .bool true, undef, undef, .bool true] : List Value)[j']?.getD undef) (fun _ _ => undef)) (by kernel_rfl) (by kernel_rfl) (by kernel_rfl) (NJ.start trivial) ?_ ?_
  ·
    dsimp only [List.take, AllOpsI, dsts, fill]
    refine ⟨?_, ?_, ?_, ?_, ?_, ?_, ?_, ?_, ?_, ?_, ?_, ?_, ?_⟩
    · intro D xs w1 hDk hwt hJ
      have HJ := hid hJ
      have HWT := hid hwt
      have HD := hid hDk
      clear hDk hwt hJ
      go_wp2_with (fail)
      first | exact ⟨.pointer (some ⟨t, 0, none⟩), by kernel_rfl, fun q hq => by obtain rfl := hq rfl; exact NJ.calm HOK.out HJ.out HD.out (by decide) (by decide) (by decide) (by decide) (by decide) (by decide) (fun _ => rfl) (Below.refl _ _)⟩ | exact ⟨.pointer (some ⟨t, 0, none⟩), by kernel_rfl, NJ.calm HOK.out HJ.out HD.out (by decide) (by decide) (by decide) (by decide) (by decide) (by decide) (fun _ => rfl) (Below.refl _ _)⟩
    · intro D xs w1 hDk hwt hJ
      have ee : xs 0 = .pointer (some ⟨t, 0, none⟩) := hJ.v 0 (hwt 0 (List.mem_of_elem_eq_true (by kernel_rfl))) (by decide)
      rw [ee]
      clear ee
      have HJ := hid hJ
      have HWT := hid hwt
      have HD := hid hDk
      clear hDk hwt hJ
      go_wp2_with (fail)
      first | exact ⟨.pointer (some ⟨t, 0, none⟩), by kernel_rfl, fun q hq => by obtain rfl := hq rfl; exact NJ.calm HOK.out HJ.out HD.out (by decide) (by decide) (by decide) (by decide) (by decide) (by decide) (fun _ => rfl) (Below.refl _ _)⟩ | exact ⟨.pointer (some ⟨t, 0, none⟩), by kernel_rfl, NJ.calm HOK.out HJ.out HD.out (by decide) (by decide) (by decide) (by decide) (by decide) (by decide) (fun _ => rfl) (Below.refl _ _)⟩
    · intro D xs w1 hDk hwt hJ
      have ee : xs 1 = .pointer (some ⟨t, 0, none⟩) := hJ.v 1 (hwt 1 (List.mem_of_elem_eq_true (by kernel_rfl))) (by decide)
      rw [ee]
      clear ee
      have HJ := hid hJ
      have HWT := hid hwt
      have HD := hid hDk
      clear hDk hwt hJ
      go_wp2_with (fail)
      first | exact ⟨.pointer (some ⟨t, 0, none⟩), by kernel_rfl, fun q hq => by obtain rfl := hq rfl; exact NJ.calm HOK.out HJ.out HD.out (by decide) (by decide) (by decide) (by decide) (by decide) (by decide) (fun _ => rfl) (Below.refl _ _)⟩ | exact ⟨.pointer (some ⟨t, 0, none⟩), by kernel_rfl, NJ.calm HOK.out HJ.out HD.out (by decide) (by decide) (by decide) (by decide) (by decide) (by decide) (fun _ => rfl) (Below.refl _ _)⟩
    · intro D xs w1 hDk hwt hJ
      have ee : xs 2 = .pointer (some ⟨t, 0, none⟩) := hJ.v 2 (hwt 2 (List.mem_of_elem_eq_true (by kernel_rfl))) (by decide)
      rw [ee]
      clear ee
      have HJ := hid hJ
      have HWT := hid hwt
      have HD := hid hDk
      clear hDk hwt hJ
      go_wp2_with (fail)
      first | exact ⟨.pointer (some ⟨t, 0, none⟩), by kernel_rfl, fun q hq => by obtain rfl := hq rfl; exact NJ.calm HOK.out HJ.out HD.out (by decide) (by decide) (by decide) (by decide) (by decide) (by decide) (fun _ => rfl) (Below.refl _ _)⟩ | exact ⟨.pointer (some ⟨t, 0, none⟩), by kernel_rfl, NJ.calm HOK.out HJ.out HD.out (by decide) (by decide) (by decide) (by decide) (by decide) (by decide) (fun _ => rfl) (Below.refl _ _)⟩
    · intro D xs w1 hDk hwt hJ
      have ee : xs 3 = .pointer (some ⟨t, 0, none⟩) := hJ.v 3 (hwt 3 (List.mem_of_elem_eq_true (by kernel_rfl))) (by decide)
      rw [ee]
      clear ee
      have t0 := cell_of (HA.out.keep (hJ.m.below (Nat.le_refl _) (fun _ _ e => e))).ht 0
      have HJ := hid hJ
      have HWT := hid hwt
      have HD := hid hDk
      clear hDk hwt hJ
      go_wp2_with (fail)
      first | exact ⟨.pointer (some ⟨sb, 0, none⟩), by kernel_rfl, fun q hq => by obtain rfl := hq rfl; exact NJ.calm HOK.out HJ.out HD.out (by decide) (by decide) (by decide) (by decide) (by decide) (by decide) (fun _ => rfl) (Below.refl _ _)⟩ | exact ⟨.pointer (some ⟨sb, 0, none⟩), by kernel_rfl, NJ.calm HOK.out HJ.out HD.out (by decide) (by decide) (by decide) (by decide) (by decide) (by decide) (fun _ => rfl) (Below.refl _ _)⟩
    · intro D xs w1 hDk hwt hJ
      have hr := ((hJ.m.below (Nat.le_refl _) (fun _ _ e => e)).block _ (lt_of_block HN.out)).trans HN.out
      have n0 := cell_of hr 0
      have n1 := cell_of hr 1
      clear hr
      have HJ := hid hJ
      have HWT := hid hwt
      have HD := hid hDk
      clear hDk hwt hJ
      go_wp2_with (fail)
      first | exact ⟨.agg #[.int .i64 slot, .int .u32 gen], by kernel_rfl, fun q hq => by obtain rfl := hq rfl; exact NJ.calm HOK.out HJ.out HD.out (by decide) (by decide) (by decide) (by decide) (by decide) (by decide) (fun _ => rfl) (Below.refl _ _)⟩ | exact ⟨.agg #[.int .i64 slot, .int .u32 gen], by kernel_rfl, NJ.calm HOK.out HJ.out HD.out (by decide) (by decide) (by decide) (by decide) (by decide) (by decide) (fun _ => rfl) (Below.refl _ _)⟩
    · intro D xs w1 hDk hwt hJ
      have ee : xs 4 = .pointer (some ⟨sb, 0, none⟩) := hJ.v 4 (hwt 4 (List.mem_of_elem_eq_true (by kernel_rfl))) (by decide)
      rw [ee]
      clear ee
      have ee : xs 5 = .agg #[.int .i64 slot, .int .u32 gen] := hJ.v 5 (hwt 5 (List.mem_of_elem_eq_true (by kernel_rfl))) (by decide)
      rw [ee]
      clear ee
      have HGT := hid (S.get_live slot gen w1 (HA.out.keep (hJ.m.below (Nat.le_refl _) (fun _ _ e => e))).hs HL.out)
      have HJ := hid hJ
      have HWT := hid hwt
      have HD := hid hDk
      clear hDk hwt hJ
      go_wp2_with (go_at_call 30; refine HGT.out.mono ?_; rintro e w2 ⟨rfl, hb2⟩)
      first | exact ⟨.tuple #[.agg #[.int .i64 kn, .string cd, .string vl, .string pt, .slice ya nb yc, .slice za nk zc, .bool pl, .bool di], .bool true], by kernel_rfl, fun q hq => by obtain rfl := hq rfl; exact NJ.calm HOK.out HJ.out HD.out (by decide) (by decide) (by decide) (by decide) (by decide) (by decide) (fun _ => rfl) (hb2)⟩ | exact ⟨.tuple #[.agg #[.int .i64 kn, .string cd, .string vl, .string pt, .slice ya nb yc, .slice za nk zc, .bool pl, .bool di], .bool true], by kernel_rfl, NJ.calm HOK.out HJ.out HD.out (by decide) (by decide) (by decide) (by decide) (by decide) (by decide) (fun _ => rfl) (hb2)⟩
    · intro D xs w1 hDk hwt hJ
      have ee : xs 6 = .tuple #[.agg #[.int .i64 kn, .string cd, .string vl, .string pt, .slice ya nb yc, .slice za nk zc, .bool pl, .bool di], .bool true] := hJ.v 6 (hwt 6 (List.mem_of_elem_eq_true (by kernel_rfl))) (by decide)
      rw [ee]
      clear ee
      have HJ := hid hJ
      have HWT := hid hwt
      have HD := hid hDk
      clear hDk hwt hJ
      go_wp2_with (fail)
      first | exact ⟨.tuple #[.agg #[.int .i64 kn, .string cd, .string vl, .string pt, .slice ya nb yc, .slice za nk zc, .bool pl, .bool di], .bool true], by kernel_rfl, fun q hq => by obtain rfl := hq rfl; exact NJ.calm HOK.out HJ.out HD.out (by decide) (by decide) (by decide) (by decide) (by decide) (by decide) (fun _ => rfl) (Below.refl _ _)⟩ | exact ⟨.tuple #[.agg #[.int .i64 kn, .string cd, .string vl, .string pt, .slice ya nb yc, .slice za nk zc, .bool pl, .bool di], .bool true], by kernel_rfl, NJ.calm HOK.out HJ.out HD.out (by decide) (by decide) (by decide) (by decide) (by decide) (by decide) (fun _ => rfl) (Below.refl _ _)⟩
    · intro D xs w1 hDk hwt hJ
      have ee : xs 7 = .tuple #[.agg #[.int .i64 kn, .string cd, .string vl, .string pt, .slice ya nb yc, .slice za nk zc, .bool pl, .bool di], .bool true] := hJ.v 7 (hwt 7 (List.mem_of_elem_eq_true (by kernel_rfl))) (by decide)
      rw [ee]
      clear ee
      have HJ := hid hJ
      have HWT := hid hwt
      have HD := hid hDk
      clear hDk hwt hJ
      go_wp2_with (fail)
      first | exact ⟨.agg #[.int .i64 kn, .string cd, .string vl, .string pt, .slice ya nb yc, .slice za nk zc, .bool pl, .bool di], by kernel_rfl, fun q hq => by obtain rfl := hq rfl; exact NJ.calm HOK.out HJ.out HD.out (by decide) (by decide) (by decide) (by decide) (by decide) (by decide) (fun _ => rfl) (Below.refl _ _)⟩ | exact ⟨.agg #[.int .i64 kn, .string cd, .string vl, .string pt, .slice ya nb yc, .slice za nk zc, .bool pl, .bool di], by kernel_rfl, NJ.calm HOK.out HJ.out HD.out (by decide) (by decide) (by decide) (by decide) (by decide) (by decide) (fun _ => rfl) (Below.refl _ _)⟩
    · intro D xs w1 hDk hwt hJ
      have ee : xs 7 = .tuple #[.agg #[.int .i64 kn, .string cd, .string vl, .string pt, .slice ya nb yc, .slice za nk zc, .bool pl, .bool di], .bool true] := hJ.v 7 (hwt 7 (List.mem_of_elem_eq_true (by kernel_rfl))) (by decide)
      rw [ee]
      clear ee
      have HJ := hid hJ
      have HWT := hid hwt
      have HD := hid hDk
      clear hDk hwt hJ
      go_wp2_with (fail)
      first | exact ⟨.bool true, by kernel_rfl, fun q hq => by obtain rfl := hq rfl; exact NJ.calm HOK.out HJ.out HD.out (by decide) (by decide) (by decide) (by decide) (by decide) (by decide) (fun _ => rfl) (Below.refl _ _)⟩ | exact ⟨.bool true, by kernel_rfl, NJ.calm HOK.out HJ.out HD.out (by decide) (by decide) (by decide) (by decide) (by decide) (by decide) (fun _ => rfl) (Below.refl _ _)⟩
    · intro D xs w1 hDk hwt hJ
      have HJ := hid hJ
      have HWT := hid hwt
      have HD := hid hDk
      clear hDk hwt hJ
      go_wp2_with fail
      first | exact ⟨.pointer (some ⟨w1.heap.size, 0, none⟩), by kernel_rfl, fun q hq => by obtain rfl := hq rfl; exact NJ.alloc HOK.out HJ.out HD.out (by decide) (by decide) (by decide) (by decide) (by decide)⟩ | exact ⟨.pointer (some ⟨w1.heap.size, 0, none⟩), by kernel_rfl, NJ.alloc HOK.out HJ.out HD.out (by decide) (by decide) (by decide) (by decide) (by decide)⟩
    · intro D xs w1 hDk hwt hJ
      have hA := hwt 10 (List.mem_of_elem_eq_true (by kernel_rfl))
      obtain ⟨b0, hb0, eb0, hc0⟩ := hJ.a hA
      rw [eb0]
      have HEB := hid eb0
      clear eb0
      rw [show D 11 = false from hDk] at hc0
      simp only [cond_false] at hc0
      have ee : xs 8 = .agg #[.int .i64 kn, .string cd, .string vl, .string pt, .slice ya nb yc, .slice za nk zc, .bool pl, .bool di] := hJ.v 8 (hwt 8 (List.mem_of_elem_eq_true (by kernel_rfl))) (by decide)
      rw [ee]
      clear ee
      have q0 := cell_of hc0 0
      have q1 := cell_of hc0 1
      have q2 := cell_of hc0 2
      have q3 := cell_of hc0 3
      have q4 := cell_of hc0 4
      have q5 := cell_of hc0 5
      have q6 := cell_of hc0 6
      have q7 := cell_of hc0 7
      have qf := free_of hc0
      have HC := hid hc0
      clear hc0
      have HJ := hid hJ
      have HWT := hid hwt
      have HD := hid hDk
      clear hDk hwt hJ
      go_wp2_with fail
      obtain ⟨m1, m2⟩ := (set8_mod _ _ _ _ _ _ _ _ HC.out)
      first | exact ⟨undef, by kernel_rfl, fun q _ => NJ.store HOK.out HJ.out HD.out (by decide) (by decide) (by decide) (by decide) (by decide) hA ((fun k h => by simp at h)) HEB.out m2 m1⟩ | exact ⟨by kernel_rfl, fun q => NJ.store HOK.out HJ.out HD.out (by decide) (by decide) (by decide) (by decide) (by decide) hA ((fun k h => by simp at h)) HEB.out m2 m1⟩
    · intro D xs w1 hDk hwt hJ
      have ee : xs 9 = .bool true := hJ.v 9 (hwt 9 (List.mem_of_elem_eq_true (by kernel_rfl))) (by decide)
      rw [ee]
      clear ee
      have HJ := hid hJ
      have HWT := hid hwt
      have HD := hid hDk
      clear hDk hwt hJ
      go_wp2_with (fail)
      first | exact ⟨.bool true, by kernel_rfl, fun q hq => by obtain rfl := hq rfl; exact NJ.calm HOK.out HJ.out HD.out (by decide) (by decide) (by decide) (by decide) (by decide) (by decide) (fun _ => rfl) (Below.refl _ _)⟩ | exact ⟨.bool true, by kernel_rfl, NJ.calm HOK.out HJ.out HD.out (by decide) (by decide) (by decide) (by decide) (by decide) (by decide) (fun _ => rfl) (Below.refl _ _)⟩
  intro D xs w7 hD hJ
  obtain ⟨u, hu, eu, hc⟩ := hJ.a (hD 10 (by omega))
  rw [hD 11 (by omega)] at hc
  simp only [cond_true] at hc
  have e12 : xs 12 = .bool true := hJ.v 12 (hD 12 (by omega)) (by decide)
  have hb7 := hJ.m.below (Nat.le_refl _) (fun _ _ e => e)
  have o0 := cell_of hc 0
  have o1 := cell_of hc 1
  have o2 := cell_of hc 2
  have o3 := cell_of hc 3
  have o4 := cell_of hc 4
  have o5 := cell_of hc 5
  have hB7 := HB.out.trans (hb7.mono (by have := HB.out.size; have := HWZ.out; omega))
  have hn8 := heap_new w7 (.cells #[.int .i64 kn, .string cd, .string vl, .string pt, .slice ya nb yc, .slice za nk zc] 53 (0, 0))
  have hb78 : Below w7.heap.size w7 (w7.alloc (.cells #[.int .i64 kn, .string cd, .string vl, .string pt, .slice ya nb yc, .slice za nk zc] 53 (0, 0))) := (Below.refl _ _).alloc (Nat.le_refl _) _
  have hB8 := hB7.trans (hb78.mono (by have := hB7.size; have := HWZ.out; omega))
  have hZ8 := ((hb7.trans (hb78.mono hb7.size)).block _ (lt_of_block HZ.out)).trans HZ.out
  have hl8 : z0 ≤ w7.heap.size := by have := hB7.size; have := HWZ.out; omega
  have HZL := hid (show z0 + 1 < w7.heap.size from by have := (hb7.block _ (lt_of_block HZ.out)).trans HZ.out; exact lt_of_block this)
  generalize hw8 : w7.alloc (.cells #[.int .i64 kn, .string cd, .string vl, .string pt, .slice ya nb yc, .slice za nk zc] 53 (0, 0)) = w8 at *
  generalize hn8e : w7.heap.size = n8 at *
  have HW8 := hid (And.intro hw8 hn8e)
  have HN8 := hid hn8
  have HB8 := hid hB8
  have HZ8 := hid hZ8
  have HL8 := hid hl8
  dsimp only [List.take, dsts, fill, List.drop]
  rw [eu, e12]
  clear hD hJ eu e12 hc hu hb7 hB7 hn8 hb78 hB8 hZ8 hl8 hw8 hn8e HOK HTM HL
  go_wp2_with fail
  rw [HW8.out.1, HW8.out.2]
  clear o0 o1 o2 o3 o4 o5
  have hok : NJOk (fun _ => False) (fun _ => True) (fun _ => True) (fun (j : Nat) (w : World) (v : Value) => (j = 2 → ∃ a c, v = .slice a nb c ∧ w.ownsRow w8.heap.size 5 1 (.slice a nb c) nb xb) ∧ (j = 5 → ∃ a c, v = .slice a nk c ∧ w.ownsRow w8.heap.size 30 2 (.slice a nk c) nk xk)) w8 47 #[] (fun _ => #[]) [] (fun _ => []) (fun _ _ => undef) := by
    have kF : ∀ j w w' v, (fun (j : Nat) (w : World) (v : Value) => (j = 2 → ∃ a c, v = .slice a nb c ∧ w.ownsRow w8.heap.size 5 1 (.slice a nb c) nb xb) ∧ (j = 5 → ∃ a c, v = .slice a nk c ∧ w.ownsRow w8.heap.size 30 2 (.slice a nk c) nk xk)) j w v → Mod (fun _ => False) w w' → (fun (j : Nat) (w : World) (v : Value) => (j = 2 → ∃ a c, v = .slice a nb c ∧ w.ownsRow w8.heap.size 5 1 (.slice a nb c) nb xb) ∧ (j = 5 → ∃ a c, v = .slice a nk c ∧ w.ownsRow w8.heap.size 30 2 (.slice a nk c) nk xk)) j w' v := fun j w w' v h hM =>
      ⟨fun e => by obtain ⟨a, c, e1, h1⟩ := h.1 e; exact ⟨a, c, e1, O.own_mod h1 hM (fun _ _ e => e)⟩, fun e => by obtain ⟨a, c, e1, h1⟩ := h.2 e; exact ⟨a, c, e1, O.own_mod h1 hM (fun _ _ e => e)⟩⟩
    refine ⟨fun _ _ _ _ => trivial, fun _ _ _ _ => trivial, fun j w w' v h hb => kF j w w' v h (mod_below hb), fun _ _ _ _ _ _ _ => trivial, fun _ _ _ _ _ _ _ => trivial, ?_, fun j w w' v hM h => kF j w w' v h hM, fun _ h => h.elim, fun _ _ _ => rfl, fun _ _ _ _ => rfl⟩
    intro j w w' u' v hu hc hM h
    exact ⟨fun e => by obtain ⟨a, c, e1, h1⟩ := h.1 e; exact ⟨a, c, e1, O.own_mod h1 hM (O.own_off h1 hc (by decide))⟩, fun e => by obtain ⟨a, c, e1, h1⟩ := h.2 e; exact ⟨a, c, e1, O.own_mod h1 hM (O.own_off h1 hc (by decide))⟩⟩
  have HOK := hid hok
  clear hok
  refine wp_region_val 7 (NJ (fun _ => False) (fun _ => True) (fun _ => True) (fun (j : Nat) (w : World) (v : Value) => (j = 2 → ∃ a c, v = .slice a nb c ∧ w.ownsRow w8.heap.size 5 1 (.slice a nb c) nb xb) ∧ (j = 5 → ∃ a c, v = .slice a nk c ∧ w.ownsRow w8.heap.size 30 2 (.slice a nk c) nk xk)) w8 47 #[] (fun _ => #[]) [] [2, 5] 99 98 97 [0, 1, 3, 4, 6] [] (fun _ => []) (fun j' => ([.pointer (some ⟨n8, 4, none⟩), .slice ya nb yc, undef, .pointer (some ⟨n8, 5, none⟩), .slice za nk zc, undef, .pointer (some ⟨n8, 4, none⟩)] : List Value)[j']?.getD undef) (fun _ _ => undef)) (by kernel_rfl) (by kernel_rfl) (by kernel_rfl) (NJ.start trivial) ?_ ?_
  ·
    dsimp only [List.take, AllOpsI, dsts, fill]
    refine ⟨?_, ?_, ?_, ?_, ?_, ?_, ?_⟩
    · intro D xs w1 hDk hwt hJ
      have HJ := hid hJ
      have HWT := hid hwt
      have HD := hid hDk
      clear hDk hwt hJ
      go_wp2_with (fail)
      first | exact ⟨.pointer (some ⟨n8, 4, none⟩), by kernel_rfl, fun q hq => by obtain rfl := hq rfl; exact NJ.calm HOK.out HJ.out HD.out (by decide) (by decide) (by decide) (by decide) (by decide) (by decide) (fun _ => rfl) (Below.refl _ _)⟩ | exact ⟨.pointer (some ⟨n8, 4, none⟩), by kernel_rfl, NJ.calm HOK.out HJ.out HD.out (by decide) (by decide) (by decide) (by decide) (by decide) (by decide) (fun _ => rfl) (Below.refl _ _)⟩
    · intro D xs w1 hDk hwt hJ
      have ee : xs 0 = .pointer (some ⟨n8, 4, none⟩) := hJ.v 0 (hwt 0 (List.mem_of_elem_eq_true (by kernel_rfl))) (by decide)
      rw [ee]
      clear ee
      have q4 := cell_of (((hJ.m.below (Nat.le_refl _) (fun _ _ e => e)).block _ (lt_of_block HN8.out)).trans HN8.out) 4
      have HJ := hid hJ
      have HWT := hid hwt
      have HD := hid hDk
      clear hDk hwt hJ
      go_wp2_with (fail)
      first | exact ⟨.slice ya nb yc, by kernel_rfl, fun q hq => by obtain rfl := hq rfl; exact NJ.calm HOK.out HJ.out HD.out (by decide) (by decide) (by decide) (by decide) (by decide) (by decide) (fun _ => rfl) (Below.refl _ _)⟩ | exact ⟨.slice ya nb yc, by kernel_rfl, NJ.calm HOK.out HJ.out HD.out (by decide) (by decide) (by decide) (by decide) (by decide) (by decide) (fun _ => rfl) (Below.refl _ _)⟩
    · intro D xs w1 hDk hwt hJ
      have ee : xs 1 = .slice ya nb yc := hJ.v 1 (hwt 1 (List.mem_of_elem_eq_true (by kernel_rfl))) (by decide)
      rw [ee]
      clear ee
      have HCX := hid (HCB.out w1 (HB8.out.trans ((hJ.m.below (Nat.le_refl _) (fun _ _ e => e)).mono (by have := HB8.out.size; have := HWZ.out; omega))))
      have hsz := hJ.m.size
      have HJ := hid hJ
      have HWT := hid hwt
      have HD := hid hDk
      clear hDk hwt hJ
      go_wp2_with (go_at_call 49; refine HCX.out.mono ?_; rintro e w2 ⟨a1, c1, rfl, hown, hb2⟩)
      first | exact ⟨.slice a1 nb c1, by kernel_rfl, fun q hq => by obtain rfl := hq rfl; exact NJ.call HOK.out HJ.out HD.out (by decide) (by decide) (by decide) (by decide) (by decide) (by decide) (⟨fun _ => ⟨a1, c1, rfl, own_le hown hsz⟩, fun e => by cases e⟩) (hb2)⟩ | exact ⟨.slice a1 nb c1, by kernel_rfl, NJ.call HOK.out HJ.out HD.out (by decide) (by decide) (by decide) (by decide) (by decide) (by decide) (⟨fun _ => ⟨a1, c1, rfl, own_le hown hsz⟩, fun e => by cases e⟩) (hb2)⟩
    · intro D xs w1 hDk hwt hJ
      have HJ := hid hJ
      have HWT := hid hwt
      have HD := hid hDk
      clear hDk hwt hJ
      go_wp2_with (fail)
      first | exact ⟨.pointer (some ⟨n8, 5, none⟩), by kernel_rfl, fun q hq => by obtain rfl := hq rfl; exact NJ.calm HOK.out HJ.out HD.out (by decide) (by decide) (by decide) (by decide) (by decide) (by decide) (fun _ => rfl) (Below.refl _ _)⟩ | exact ⟨.pointer (some ⟨n8, 5, none⟩), by kernel_rfl, NJ.calm HOK.out HJ.out HD.out (by decide) (by decide) (by decide) (by decide) (by decide) (by decide) (fun _ => rfl) (Below.refl _ _)⟩
    · intro D xs w1 hDk hwt hJ
      have ee : xs 3 = .pointer (some ⟨n8, 5, none⟩) := hJ.v 3 (hwt 3 (List.mem_of_elem_eq_true (by kernel_rfl))) (by decide)
      rw [ee]
      clear ee
      have q5 := cell_of (((hJ.m.below (Nat.le_refl _) (fun _ _ e => e)).block _ (lt_of_block HN8.out)).trans HN8.out) 5
      have HJ := hid hJ
      have HWT := hid hwt
      have HD := hid hDk
      clear hDk hwt hJ
      go_wp2_with (fail)
      first | exact ⟨.slice za nk zc, by kernel_rfl, fun q hq => by obtain rfl := hq rfl; exact NJ.calm HOK.out HJ.out HD.out (by decide) (by decide) (by decide) (by decide) (by decide) (by decide) (fun _ => rfl) (Below.refl _ _)⟩ | exact ⟨.slice za nk zc, by kernel_rfl, NJ.calm HOK.out HJ.out HD.out (by decide) (by decide) (by decide) (by decide) (by decide) (by decide) (fun _ => rfl) (Below.refl _ _)⟩
    · intro D xs w1 hDk hwt hJ
      have ee : xs 4 = .slice za nk zc := hJ.v 4 (hwt 4 (List.mem_of_elem_eq_true (by kernel_rfl))) (by decide)
      rw [ee]
      clear ee
      have HCX := hid (HCK.out w1 (HB8.out.trans ((hJ.m.below (Nat.le_refl _) (fun _ _ e => e)).mono (by have := HB8.out.size; have := HWZ.out; omega))))
      have hsz := hJ.m.size
      have HJ := hid hJ
      have HWT := hid hwt
      have HD := hid hDk
      clear hDk hwt hJ
      go_wp2_with (go_at_call 50; refine HCX.out.mono ?_; rintro e w2 ⟨a1, c1, rfl, hown, hb2⟩)
      first | exact ⟨.slice a1 nk c1, by kernel_rfl, fun q hq => by obtain rfl := hq rfl; exact NJ.call HOK.out HJ.out HD.out (by decide) (by decide) (by decide) (by decide) (by decide) (by decide) (⟨fun e => (by cases e), fun _ => ⟨a1, c1, rfl, own_le hown hsz⟩⟩) (hb2)⟩ | exact ⟨.slice a1 nk c1, by kernel_rfl, NJ.call HOK.out HJ.out HD.out (by decide) (by decide) (by decide) (by decide) (by decide) (by decide) (⟨fun e => (by cases e), fun _ => ⟨a1, c1, rfl, own_le hown hsz⟩⟩) (hb2)⟩
    · intro D xs w1 hDk hwt hJ
      have HJ := hid hJ
      have HWT := hid hwt
      have HD := hid hDk
      clear hDk hwt hJ
      go_wp2_with (fail)
      first | exact ⟨.pointer (some ⟨n8, 4, none⟩), by kernel_rfl, fun q hq => by obtain rfl := hq rfl; exact NJ.calm HOK.out HJ.out HD.out (by decide) (by decide) (by decide) (by decide) (by decide) (by decide) (fun _ => rfl) (Below.refl _ _)⟩ | exact ⟨.pointer (some ⟨n8, 4, none⟩), by kernel_rfl, NJ.calm HOK.out HJ.out HD.out (by decide) (by decide) (by decide) (by decide) (by decide) (by decide) (fun _ => rfl) (Below.refl _ _)⟩
  intro D xs w9 hD hJ
  obtain ⟨a1, c1, e2, hy⟩ := (hJ.l 2 (by decide) (hD 2 (by omega))).1 rfl
  obtain ⟨a2, c2, e5, hz⟩ := (hJ.l 5 (by decide) (hD 5 (by omega))).2 rfl
  have hb9 := hJ.m.below (Nat.le_refl _) (fun _ _ e => e)
  have hn9 := (hb9.block _ (lt_of_block HN8.out)).trans HN8.out
  have hz9 := (hb9.block _ (lt_of_block HZ8.out)).trans HZ8.out
  have q0 := cell_of hn9 0
  have q1 := cell_of hn9 1
  have q2 := cell_of hn9 2
  have q3 := cell_of hn9 3
  have q4 := cell_of hn9 4
  have q5 := cell_of hn9 5
  have qf := free_of hn9
  have r0 := cell_of hz9 0
  have r1 := cell_of hz9 1
  have r2 := cell_of hz9 2
  have r3 := cell_of hz9 3
  have r4 := cell_of hz9 4
  have r5 := cell_of hz9 5
  have rf := free_of hz9
  have hne : z0 + 1 ≠ n8 := by have := HZL.out; omega
  have hne2 : n8 ≠ z0 + 1 := fun e => hne e.symm
  have HX := hid (And.intro hy (And.intro hz (And.intro hb9 (And.intro hn9 hz9))))
  have e6 : xs 6 = .pointer (some ⟨n8, 4, none⟩) := hJ.v 6 (hD 6 (by omega)) (by decide)
  dsimp only [List.take, dsts, fill, List.drop]
  rw [e2, e5, e6]
  clear hD hJ hy hz hb9 hn9 hz9 e2 e5 e6 HOK
  go_wp2_with fail
  obtain ⟨hy, hz, hb9, hn9, hz9⟩ := HX.out
  have hM10 : Mod (· = n8) w9 ((w9.setCell ⟨n8, 4, none⟩ (.slice a1 nb c1)).setCell ⟨n8, 5, none⟩ (.slice a2 nk c2)) := Mod.setCell (S := (· = n8)) (p := ⟨n8, 5, none⟩) (Mod.setCell (S := (· = n8)) (p := ⟨n8, 4, none⟩) (Mod.refl _ _) (.inl rfl) _) (.inl rfl) _
  have hz10 := (hM10.block (z0 + 1) (lt_of_block hz9) hne).trans hz9
  obtain ⟨m1, m2⟩ := set6_mod (.int .i64 kn) (.string cd) (.string vl) (.string pt) (.slice a1 nb c1) (.slice a2 nk c2) hz10
  have hy10 := O.own_mod hy hM10 (O.own_off hy hn9 (by decide))
  have hz10' := O.own_mod hz hM10 (O.own_off hz hn9 (by decide))
  have hsz := HB8.out.size
  have hwz := HWZ.out
  have hs9 := hb9.size
  have hl8 := HL8.out
  have hzl := HZL.out
  obtain ⟨fs, hus⟩ : ∃ fs, Tryz.prog.underlying 53 = some (.struct fs) := ⟨_, rfl⟩
  have hR := fun tm hp => results_ct (P := Tryz.prog) (fn := Tryz.f18) (p := 4) (u := 5) (ty := 53) (by kernel_rfl) tm _ (z0 + 1) _ _ _ _ hp m1 hus rfl (by kernel_rfl)
  refine bodyPost_ret (hR _ ?hp) ?hd ?post
  case hp => rfl
  case hd => rfl
  case post =>
    refine ⟨a1, c1, a2, c2, rfl, own_le (O.own_mod hy10 m2 (O.own_off hy10 hz10 (by decide))) (by omega), own_le (O.own_mod hz10' m2 (O.own_off hz10' hz10 (by decide))) (by omega), ?_⟩
    have hM : Mod (fun k => z0 ≤ k) w _ := (((Mod.ofBelow (S := fun k => z0 ≤ k) (hwz ▸ HB8.out)).trans (mod_below hb9) (fun _ _ h => h)).trans hM10 (fun i hi e => by have e2 : i = n8 := e; omega)).trans m2 (fun i hi e => by have e2 : i = z0 + 1 := e; omega)
    exact hM.below (by omega) (fun k hk e => by have e2 : z0 ≤ k := e; omega)
end Go.Proofs.YtnngicopphiaaaaGreatDoor.T

namespace Go.Proofs.YtnngicopphiaaaaGreatDoor.T
set_option maxRecDepth 8000
open Go.ChangeShapes Go.WideShapes Go.ChangeAt Go.RowKit Go.Burg
open Go.Burg.Lk
section
variable {w w' : World} {t sb sg kb km : Nat} {P : List (Cel PNd)} {L : List (RefK × Wd)} {tk : Int}
theorem Node_inner {i k : Nat} {pt : ByteArray} {Lk : List Kd} {pl di : Bool} (slot gen : Int) (w : World) (h : TreeP w t sb sg kb km P L tk) (hq : LiveP P slot gen i ⟨.inner k pt Lk, pl, di⟩) (hne : 1 ≤ Lk.length) :
    Calls Tryz.prog 18 #[.pointer (some ⟨t, 0, none⟩), .agg #[.int .i64 slot, .int .u32 gen]] w fun e w' => ∃ a c a' c', e = .returned (.tuple #[.agg #[.int .i64 k, .string ⟨#[]⟩, .string ⟨#[]⟩, .string pt, .slice (some ⟨a, 0, none⟩) Lk.length c, .slice (some ⟨a', 0, none⟩) Lk.length c'], .bool true]) ∧
      w'.ownsRow w.heap.size 5 1 (.slice (some ⟨a, 0, none⟩) Lk.length c) Lk.length (bytesL Lk) ∧ w'.ownsRow w.heap.size 30 2 (.slice (some ⟨a', 0, none⟩) Lk.length c') Lk.length (kidsL Lk) ∧ Below w.heap.size w w' := by
  obtain ⟨l, ya, yc, za, zc, hTA, hRE, hL, hN, hMB⟩ := h.inner hq
  obtain ⟨gy, rfl, ly, cy⟩ := O.own_cells hN.b hne
  obtain ⟨gz, rfl, lz, cz⟩ := O.own_cells hN.z hne
  have hrm := hN.room
  refine (Node_at (xb := bytesL Lk) (xk := kidsL Lk) slot gen w hTA hL (fun w1 hb => ?_) (fun w1 hb => ?_)).mono ?_
  · refine (bclone_off (bytesL Lk) w1 (Nat.lt_of_lt_of_le ly hb.size) (fun j u hj => ?_) (by rw [bytesL_len]; omega) (fun u hu => ?_) hne (by omega)).mono ?_
    · rw [Nat.zero_add]
      exact (World.cell?_of_block (w := w) (hb.block gy ly)).trans (cy j u hj)
    · obtain ⟨x, _, rfl⟩ := List.mem_map.1 hu; rfl
    · rintro e w2 ⟨g', cap, rfl, h1, h2⟩
      exact ⟨_, _, rfl, h1, h2⟩
  · refine (rclone_off (kidsL Lk) w1 (Nat.lt_of_lt_of_le lz hb.size) (fun j u hj => ?_) (by rw [kidsL_len]) (fun u hu => ?_) hne (by omega)).mono ?_
    · rw [Nat.zero_add]
      exact (World.cell?_of_block (w := w) (hb.block gz lz)).trans (cz j u hj)
    · obtain ⟨x, _, hx⟩ := List.mem_flatMap.1 hu
      simp at hx
      rcases hx with rfl | rfl <;> rfl
    · rintro e w2 ⟨g', cap, rfl, h1, h2⟩
      exact ⟨_, _, rfl, h1, h2⟩
  · rintro e w2 ⟨a, c, a', c', rfl, h1, h2, h3⟩
    obtain ⟨g1, rfl, _, _⟩ := O.own_cells (own_le h1 (Nat.zero_le _)) hne
    obtain ⟨g2, rfl, _, _⟩ := O.own_cells (own_le h2 (Nat.zero_le _)) hne
    exact ⟨g1, c, g2, c', rfl, h1, h2, h3⟩
theorem Node_leaf {i : Nat} {cd v : ByteArray} {pl di : Bool} (slot gen : Int) (w : World) (h : TreeP w t sb sg kb km P L tk) (hq : LiveP P slot gen i ⟨.leaf cd v, pl, di⟩) :
    Calls Tryz.prog 18 #[.pointer (some ⟨t, 0, none⟩), .agg #[.int .i64 slot, .int .u32 gen]] w fun e w' => ∃ a c a' c', e = .returned (.tuple #[.agg #[.int .i64 1, .string cd, .string v, .string ⟨#[]⟩, .slice a 0 c, .slice a' 0 c'], .bool true]) ∧ Below w.heap.size w w' := by
  obtain ⟨l, hTA, hRE, hL⟩ := h.leaf hq
  refine (Node_at (xb := []) (xk := []) slot gen w hTA hL (fun w1 hb => ?_) (fun w1 hb => ?_)).mono ?_
  · refine (bclone_nil w1).mono ?_
    rintro e w2 ⟨rfl, rfl⟩
    exact ⟨none, 0, rfl, World.ownsRow_nil _ _ _ _, Below.refl _ _⟩
  · refine (rclone_nil w1).mono ?_
    rintro e w2 ⟨rfl, rfl⟩
    exact ⟨none, 0, rfl, World.ownsRow_nil _ _ _ _, Below.refl _ _⟩
  · rintro e w2 ⟨a, c, a', c', rfl, h1, h2, h3⟩
    exact ⟨a, c, a', c', rfl, h3⟩
theorem Room_P (w : World) (h : TreeP w t sb sg kb km P L tk) : Calls Tryz.prog 20 #[.pointer (some ⟨t, 0, none⟩)] w fun e w' => e = .returned (.int .i64 (roomN P)) ∧ Below w.heap.size w w' := by
  obtain ⟨l, hT, hR⟩ := h
  have hrm := hR.roomN
  have HM := hid (tmade_at w hT.ht)
  have HL := hid (fun w1 (hb : Below w.heap.size w w1) => S.left_any w1 (hT.keep hb).hs)
  have HT := hid hT
  have HRM := hid hrm
  clear hT hR hrm
  have t0 := cell_of HT.out.ht 0
  go_enter Tryz.func20, Tryz.ntmps20
  go_wp2_with (first | (go_at_call 23; refine HM.out.mono ?_; rintro e w' ⟨rfl, rfl⟩) | (go_at_call 35; refine (HL.out _ (Below.refl _ _)).mono ?_; rintro e w2 ⟨rfl, hb⟩))
  go_ret
  exact ⟨by rw [HRM.out]; rfl, hb⟩
theorem Plant_P {j : Nat} {pj : Cel PNd} (w : World) (h : TreeP w t sb sg kb km P L tk) (hF : First P (j : Int)) (hj : P[j]? = some pj) (hjr : pj.room = true) (rr : RefK) (hr1 : rr.1.1 = j) (hr2 : rr.1.2 = pj.gen + 1) :
    Calls Tryz.prog 6 #[.pointer (some ⟨t, 0, none⟩)] w fun e w' => e = .returned (.tuple #[.agg #[.int .i64 j, .int .u32 (pj.gen + 1)], .int .i64 0]) ∧ TreeP w' t sb sg kb km (P.set j ⟨true, ⟨.inner 5 ⟨#[]⟩ [], true, false⟩, pj.gen + 1⟩) (K.addL L rr).2 tk ∧ Mod (TOwn sg km) w w' := by
  obtain ⟨l, h1, h2⟩ := h
  obtain ⟨cj, hcj, _, hcg, hcr⟩ := h2.cell hj
  have := plant_at w h1 (h2.first hF) hcj (hcr.trans hjr) rr hr1 (hr2.trans (by rw [hcg]))
  rw [hcg] at this
  refine this.mono ?_
  rintro e w' ⟨e1, hT, hM⟩
  exact ⟨e1, ⟨_, hT, Rel.set (x := anchorN) (q := ⟨.inner 5 ⟨#[]⟩ [], true, false⟩) (h2.mod hM h1.noRow) true (fun _ => ⟨rfl, rfl, rfl, rfl, rfl, rfl, ⟨World.ownsRow_nil _ _ _ _, World.ownsRow_nil _ _ _ _, by omega, by omega, by decide, by simp [roomOf], List.Pairwise.nil, fun _ h => by simp at h⟩, .inr ⟨rfl, rfl⟩⟩)⟩, hM⟩
end
end Go.Proofs.YtnngicopphiaaaaGreatDoor.T
