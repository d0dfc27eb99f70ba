/- Part 49 of 51 of a proof: lemmas on the functions that it reaches. -/
import Derived.Test.YtnngicopphiaaaaGreatDoorC48
import Derived.Test.YtnngicopphiaaaaGreatDoorRows
import Derived.Test.YtnngicopphiaaaaGreatDoorC02
namespace Go.Proofs.YtnngicopphiaaaaGreatDoor.T
set_option maxRecDepth 8000
open Go.ChangeShapes Go.WideShapes Go.ChangeAt Go.RowKit Go.Burg
open Go.Burg.Lk
set_option maxRecDepth 20000 in
set_option maxHeartbeats 4000000 in
theorem tKill_no {t sb sg kb km i nb nk yc zc : Nat} {l : List (Cel Nd)} {L : List (RefK × Wd)} {tk kn gn : Int} {cd vl pt : ByteArray} {ya za : Option Addr} {pl di : Bool} (slot gen : Int) (w : World) (h : TreeAt w t sb sg kb km l L tk) (hL : S.Live l slot gen i ⟨true, ⟨kn, cd, vl, pt, ⟨ya, nb, yc⟩, ⟨za, nk, zc⟩, pl, di⟩, gn⟩) (hd : di = false) (r : RefK) (hr : r.1 = (slot, gen)) :
    Calls Tryz.prog 12 #[.pointer (some ⟨t, 0, none⟩), .agg #[.int .i64 slot, .int .u32 gen]] w fun e w' => e = .returned (.int .i64 15) ∧ Below w.heap.size w w' := by
  obtain ⟨⟨s', g'⟩, hrw⟩ := r
  cases hr
  have hN := heap_new w (.cells #[.int .i64 slot, .int .u32 gen] 30 (0, 0))
  have hA := h.alloc (.cells #[.int .i64 slot, .int .u32 gen] 30 (0, 0))
  have hB : Below w.heap.size w (w.alloc (.cells #[.int .i64 slot, .int .u32 gen] 30 (0, 0))) := (Below.refl _ _).alloc (Nat.le_refl _) _
  have HM := hid (tmade_at _ hA.ht)
  generalize hW : w.alloc (.cells #[.int .i64 slot, .int .u32 gen] 30 (0, 0)) = W at *
  generalize hu : w.heap.size = z0 at *
  have HA := hid hA
  have HN := hid hN
  have HB := hid hB
  have HW := hid hW
  have HU := hid hu
  have HL := hid hL
  have HDI := hid hd
  clear h hN hA hB hW hu hL hd
  go_enter Tryz.func12, Tryz.ntmps12
  go_wp2_with fail
  rw [HW.out, HU.out]
  go_wp2_with (go_at_call 23; refine HM.out.mono ?_; rintro e w' ⟨rfl, rfl⟩)
  have HOK := hid (NJOk.calm (W0 := W) (T := 61) (z := #[.int .i64 0, .string ⟨#[]⟩, .string ⟨#[]⟩, .string ⟨#[]⟩, .slice none 0 0, .slice none 0 0, .bool false, .bool false]) (o := #[.int .i64 kn, .string cd, .string vl, .string pt, .slice ya nb yc, .slice za nk zc, .bool pl, .bool di]) (dl := fun _ => []))
  refine wp_region_val 13 (NJ (fun _ => False) (fun _ => True) (fun _ => True) (fun _ _ _ => True) W 61 #[.int .i64 0, .string ⟨#[]⟩, .string ⟨#[]⟩, .string ⟨#[]⟩, .slice none 0 0, .slice none 0 0, .bool false, .bool false] (fun _ => #[.int .i64 kn, .string cd, .string vl, .string pt, .slice ya nb yc, .slice za nk zc, .bool pl, .bool di]) [] [] 99 10 11 [0, 1, 2, 3, 4, 5, 6, 7, 8, 9, 12] [] (fun _ => []) (fun j' => ([.pointer (some ⟨t, 0, none⟩), .pointer (some ⟨t, 0, none⟩), .pointer (some ⟨t, 0, none⟩), .pointer (some ⟨t, 0, none⟩), .pointer (some ⟨sb, 0, none⟩), .agg #[.int .i64 slot, .int .u32 gen], .tuple #[.agg #[.int .i64 kn, .string cd, .string vl, .string pt, .slice ya nb yc, .slice za nk zc, .bool pl, .bool di], .bool true], .tuple #[.agg #[.int .i64 kn, .string cd, .string vl, .string pt, .slice ya nb yc, .slice za nk zc, .bool pl, .bool di], .bool true], .agg #[.int .i64 kn, .string cd, .string vl, .string pt, .slice ya nb yc, .slice za nk zc, .bool pl, .bool di], .bool true, undef, undef, .bool true] : List Value)[j']?.getD undef) (fun _ _ => undef)) (by kernel_rfl) (by kernel_rfl) (by kernel_rfl) (NJ.start trivial) ?_ ?_
  ·
    dsimp only [List.take, AllOpsI, dsts, fill]
    refine ⟨?_, ?_, ?_, ?_, ?_, ?_, ?_, ?_, ?_, ?_, ?_, ?_, ?_⟩
    · intro D xs w1 hDk hwt hJ
      have HJ := hid hJ
      have HWT := hid hwt
      have HD := hid hDk
      clear hDk hwt hJ
      go_wp2_with (fail)
      first | exact ⟨.pointer (some ⟨t, 0, none⟩), by kernel_rfl, fun q hq => by obtain rfl := hq rfl; exact NJ.calm HOK.out HJ.out HD.out (by decide) (by decide) (by decide) (by decide) (by decide) (by decide) (fun _ => rfl) (Below.refl _ _)⟩ | exact ⟨.pointer (some ⟨t, 0, none⟩), by kernel_rfl, NJ.calm HOK.out HJ.out HD.out (by decide) (by decide) (by decide) (by decide) (by decide) (by decide) (fun _ => rfl) (Below.refl _ _)⟩
    · intro D xs w1 hDk hwt hJ
      have ee : xs 0 = .pointer (some ⟨t, 0, none⟩) := hJ.v 0 (hwt 0 (List.mem_of_elem_eq_true (by kernel_rfl))) (by decide)
      rw [ee]
      clear ee
      have HJ := hid hJ
      have HWT := hid hwt
      have HD := hid hDk
      clear hDk hwt hJ
      go_wp2_with (fail)
      first | exact ⟨.pointer (some ⟨t, 0, none⟩), by kernel_rfl, fun q hq => by obtain rfl := hq rfl; exact NJ.calm HOK.out HJ.out HD.out (by decide) (by decide) (by decide) (by decide) (by decide) (by decide) (fun _ => rfl) (Below.refl _ _)⟩ | exact ⟨.pointer (some ⟨t, 0, none⟩), by kernel_rfl, NJ.calm HOK.out HJ.out HD.out (by decide) (by decide) (by decide) (by decide) (by decide) (by decide) (fun _ => rfl) (Below.refl _ _)⟩
    · intro D xs w1 hDk hwt hJ
      have ee : xs 1 = .pointer (some ⟨t, 0, none⟩) := hJ.v 1 (hwt 1 (List.mem_of_elem_eq_true (by kernel_rfl))) (by decide)
      rw [ee]
      clear ee
      have HJ := hid hJ
      have HWT := hid hwt
      have HD := hid hDk
      clear hDk hwt hJ
      go_wp2_with (fail)
      first | exact ⟨.pointer (some ⟨t, 0, none⟩), by kernel_rfl, fun q hq => by obtain rfl := hq rfl; exact NJ.calm HOK.out HJ.out HD.out (by decide) (by decide) (by decide) (by decide) (by decide) (by decide) (fun _ => rfl) (Below.refl _ _)⟩ | exact ⟨.pointer (some ⟨t, 0, none⟩), by kernel_rfl, NJ.calm HOK.out HJ.out HD.out (by decide) (by decide) (by decide) (by decide) (by decide) (by decide) (fun _ => rfl) (Below.refl _ _)⟩
    · intro D xs w1 hDk hwt hJ
      have ee : xs 2 = .pointer (some ⟨t, 0, none⟩) := hJ.v 2 (hwt 2 (List.mem_of_elem_eq_true (by kernel_rfl))) (by decide)
      rw [ee]
      clear ee
      have HJ := hid hJ
      have HWT := hid hwt
      have HD := hid hDk
      clear hDk hwt hJ
      go_wp2_with (fail)
      first | exact ⟨.pointer (some ⟨t, 0, none⟩), by kernel_rfl, fun q hq => by obtain rfl := hq rfl; exact NJ.calm HOK.out HJ.out HD.out (by decide) (by decide) (by decide) (by decide) (by decide) (by decide) (fun _ => rfl) (Below.refl _ _)⟩ | exact ⟨.pointer (some ⟨t, 0, none⟩), by kernel_rfl, NJ.calm HOK.out HJ.out HD.out (by decide) (by decide) (by decide) (by decide) (by decide) (by decide) (fun _ => rfl) (Below.refl _ _)⟩
    · intro D xs w1 hDk hwt hJ
      have ee : xs 3 = .pointer (some ⟨t, 0, none⟩) := hJ.v 3 (hwt 3 (List.mem_of_elem_eq_true (by kernel_rfl))) (by decide)
      rw [ee]
      clear ee
      have t0 := cell_of (HA.out.keep (hJ.m.below (Nat.le_refl _) (fun _ _ e => e))).ht 0
      have HJ := hid hJ
      have HWT := hid hwt
      have HD := hid hDk
      clear hDk hwt hJ
      go_wp2_with (fail)
      first | exact ⟨.pointer (some ⟨sb, 0, none⟩), by kernel_rfl, fun q hq => by obtain rfl := hq rfl; exact NJ.calm HOK.out HJ.out HD.out (by decide) (by decide) (by decide) (by decide) (by decide) (by decide) (fun _ => rfl) (Below.refl _ _)⟩ | exact ⟨.pointer (some ⟨sb, 0, none⟩), by kernel_rfl, NJ.calm HOK.out HJ.out HD.out (by decide) (by decide) (by decide) (by decide) (by decide) (by decide) (fun _ => rfl) (Below.refl _ _)⟩
    · intro D xs w1 hDk hwt hJ
      have hr := ((hJ.m.below (Nat.le_refl _) (fun _ _ e => e)).block _ (lt_of_block HN.out)).trans HN.out
      have n0 := cell_of hr 0
      have n1 := cell_of hr 1
      clear hr
      have HJ := hid hJ
      have HWT := hid hwt
      have HD := hid hDk
      clear hDk hwt hJ
      go_wp2_with (fail)
      first | exact ⟨.agg #[.int .i64 slot, .int .u32 gen], by kernel_rfl, fun q hq => by obtain rfl := hq rfl; exact NJ.calm HOK.out HJ.out HD.out (by decide) (by decide) (by decide) (by decide) (by decide) (by decide) (fun _ => rfl) (Below.refl _ _)⟩ | exact ⟨.agg #[.int .i64 slot, .int .u32 gen], by kernel_rfl, NJ.calm HOK.out HJ.out HD.out (by decide) (by decide) (by decide) (by decide) (by decide) (by decide) (fun _ => rfl) (Below.refl _ _)⟩
    · intro D xs w1 hDk hwt hJ
      have ee : xs 4 = .pointer (some ⟨sb, 0, none⟩) := hJ.v 4 (hwt 4 (List.mem_of_elem_eq_true (by kernel_rfl))) (by decide)
      rw [ee]
      clear ee
      have ee : xs 5 = .agg #[.int .i64 slot, .int .u32 gen] := hJ.v 5 (hwt 5 (List.mem_of_elem_eq_true (by kernel_rfl))) (by decide)
      rw [ee]
      clear ee
      have HGT := hid (S.get_live slot gen w1 (HA.out.keep (hJ.m.below (Nat.le_refl _) (fun _ _ e => e))).hs HL.out)
      have HJ := hid hJ
      have HWT := hid hwt
      have HD := hid hDk
      clear hDk hwt hJ
      go_wp2_with (go_at_call 30; refine HGT.out.mono ?_; rintro e w2 ⟨rfl, hb2⟩)
      first | exact ⟨.tuple #[.agg #[.int .i64 kn, .string cd, .string vl, .string pt, .slice ya nb yc, .slice za nk zc, .bool pl, .bool di], .bool true], by kernel_rfl, fun q hq => by obtain rfl := hq rfl; exact NJ.calm HOK.out HJ.out HD.out (by decide) (by decide) (by decide) (by decide) (by decide) (by decide) (fun _ => rfl) (hb2)⟩ | exact ⟨.tuple #[.agg #[.int .i64 kn, .string cd, .string vl, .string pt, .slice ya nb yc, .slice za nk zc, .bool pl, .bool di], .bool true], by kernel_rfl, NJ.calm HOK.out HJ.out HD.out (by decide) (by decide) (by decide) (by decide) (by decide) (by decide) (fun _ => rfl) (hb2)⟩
    · intro D xs w1 hDk hwt hJ
      have ee : xs 6 = .tuple #[.agg #[.int .i64 kn, .string cd, .string vl, .string pt, .slice ya nb yc, .slice za nk zc, .bool pl, .bool di], .bool true] := hJ.v 6 (hwt 6 (List.mem_of_elem_eq_true (by kernel_rfl))) (by decide)
      rw [ee]
      clear ee
      have HJ := hid hJ
      have HWT := hid hwt
      have HD := hid hDk
      clear hDk hwt hJ
      go_wp2_with (fail)
      first | exact ⟨.tuple #[.agg #[.int .i64 kn, .string cd, .string vl, .string pt, .slice ya nb yc, .slice za nk zc, .bool pl, .bool di], .bool true], by kernel_rfl, fun q hq => by obtain rfl := hq rfl; exact NJ.calm HOK.out HJ.out HD.out (by decide) (by decide) (by decide) (by decide) (by decide) (by decide) (fun _ => rfl) (Below.refl _ _)⟩ | exact ⟨.tuple #[.agg #[.int .i64 kn, .string cd, .string vl, .string pt, .slice ya nb yc, .slice za nk zc, .bool pl, .bool di], .bool true], by kernel_rfl, NJ.calm HOK.out HJ.out HD.out (by decide) (by decide) (by decide) (by decide) (by decide) (by decide) (fun _ => rfl) (Below.refl _ _)⟩
    · intro D xs w1 hDk hwt hJ
      have ee : xs 7 = .tuple #[.agg #[.int .i64 kn, .string cd, .string vl, .string pt, .slice ya nb yc, .slice za nk zc, .bool pl, .bool di], .bool true] := hJ.v 7 (hwt 7 (List.mem_of_elem_eq_true (by kernel_rfl))) (by decide)
      rw [ee]
      clear ee
      have HJ := hid hJ
      have HWT := hid hwt
      have HD := hid hDk
      clear hDk hwt hJ
      go_wp2_with (fail)
      first | exact ⟨.agg #[.int .i64 kn, .string cd, .string vl, .string pt, .slice ya nb yc, .slice za nk zc, .bool pl, .bool di], by kernel_rfl, fun q hq => by obtain rfl := hq rfl; exact NJ.calm HOK.out HJ.out HD.out (by decide) (by decide) (by decide) (by decide) (by decide) (by decide) (fun _ => rfl) (Below.refl _ _)⟩ | exact ⟨.agg #[.int .i64 kn, .string cd, .string vl, .string pt, .slice ya nb yc, .slice za nk zc, .bool pl, .bool di], by kernel_rfl, NJ.calm HOK.out HJ.out HD.out (by decide) (by decide) (by decide) (by decide) (by decide) (by decide) (fun _ => rfl) (Below.refl _ _)⟩
    · intro D xs w1 hDk hwt hJ
      have ee : xs 7 = .tuple #[.agg #[.int .i64 kn, .string cd, .string vl, .string pt, .slice ya nb yc, .slice za nk zc, .bool pl, .bool di], .bool true] := hJ.v 7 (hwt 7 (List.mem_of_elem_eq_true (by kernel_rfl))) (by decide)
      rw [ee]
      clear ee
      have HJ := hid hJ
      have HWT := hid hwt
      have HD := hid hDk
      clear hDk hwt hJ
      go_wp2_with (fail)
      first | exact ⟨.bool true, by kernel_rfl, fun q hq => by obtain rfl := hq rfl; exact NJ.calm HOK.out HJ.out HD.out (by decide) (by decide) (by decide) (by decide) (by decide) (by decide) (fun _ => rfl) (Below.refl _ _)⟩ | exact ⟨.bool true, by kernel_rfl, NJ.calm HOK.out HJ.out HD.out (by decide) (by decide) (by decide) (by decide) (by decide) (by decide) (fun _ => rfl) (Below.refl _ _)⟩
    · intro D xs w1 hDk hwt hJ
      have HJ := hid hJ
      have HWT := hid hwt
      have HD := hid hDk
      clear hDk hwt hJ
      go_wp2_with fail
      first | exact ⟨.pointer (some ⟨w1.heap.size, 0, none⟩), by kernel_rfl, fun q hq => by obtain rfl := hq rfl; exact NJ.alloc HOK.out HJ.out HD.out (by decide) (by decide) (by decide) (by decide) (by decide)⟩ | exact ⟨.pointer (some ⟨w1.heap.size, 0, none⟩), by kernel_rfl, NJ.alloc HOK.out HJ.out HD.out (by decide) (by decide) (by decide) (by decide) (by decide)⟩
    · intro D xs w1 hDk hwt hJ
      have hA := hwt 10 (List.mem_of_elem_eq_true (by kernel_rfl))
      obtain ⟨b0, hb0, eb0, hc0⟩ := hJ.a hA
      rw [eb0]
      have HEB := hid eb0
      clear eb0
      rw [show D 11 = false from hDk] at hc0
      simp only [cond_false] at hc0
      have ee : xs 8 = .agg #[.int .i64 kn, .string cd, .string vl, .string pt, .slice ya nb yc, .slice za nk zc, .bool pl, .bool di] := hJ.v 8 (hwt 8 (List.mem_of_elem_eq_true (by kernel_rfl))) (by decide)
      rw [ee]
      clear ee
      have q0 := cell_of hc0 0
      have q1 := cell_of hc0 1
      have q2 := cell_of hc0 2
      have q3 := cell_of hc0 3
      have q4 := cell_of hc0 4
      have q5 := cell_of hc0 5
      have q6 := cell_of hc0 6
      have q7 := cell_of hc0 7
      have qf := free_of hc0
      have HC := hid hc0
      clear hc0
      have HJ := hid hJ
      have HWT := hid hwt
      have HD := hid hDk
      clear hDk hwt hJ
      go_wp2_with fail
      obtain ⟨m1, m2⟩ := (set8_mod _ _ _ _ _ _ _ _ HC.out)
      first | exact ⟨undef, by kernel_rfl, fun q _ => NJ.store HOK.out HJ.out HD.out (by decide) (by decide) (by decide) (by decide) (by decide) hA ((fun k h => by simp at h)) HEB.out m2 m1⟩ | exact ⟨by kernel_rfl, fun q => NJ.store HOK.out HJ.out HD.out (by decide) (by decide) (by decide) (by decide) (by decide) hA ((fun k h => by simp at h)) HEB.out m2 m1⟩
    · intro D xs w1 hDk hwt hJ
      have ee : xs 9 = .bool true := hJ.v 9 (hwt 9 (List.mem_of_elem_eq_true (by kernel_rfl))) (by decide)
      rw [ee]
      clear ee
      have HJ := hid hJ
      have HWT := hid hwt
      have HD := hid hDk
      clear hDk hwt hJ
      go_wp2_with (fail)
      first | exact ⟨.bool true, by kernel_rfl, fun q hq => by obtain rfl := hq rfl; exact NJ.calm HOK.out HJ.out HD.out (by decide) (by decide) (by decide) (by decide) (by decide) (by decide) (fun _ => rfl) (Below.refl _ _)⟩ | exact ⟨.bool true, by kernel_rfl, NJ.calm HOK.out HJ.out HD.out (by decide) (by decide) (by decide) (by decide) (by decide) (by decide) (fun _ => rfl) (Below.refl _ _)⟩
  intro D xs w7 hD hJ
  obtain ⟨u, hu, eu, hc⟩ := hJ.a (hD 10 (by omega))
  rw [hD 11 (by omega)] at hc
  simp only [cond_true] at hc
  have e12 : xs 12 = .bool true := hJ.v 12 (hD 12 (by omega)) (by decide)
  have hb7 := hJ.m.below (Nat.le_refl _) (fun _ _ e => e)
  have HB7 := hid hb7
  have HC := hid hc
  have HK := hid (fun w1 (hb : Below w7.heap.size w7 w1) => K.begin_at (HA.out.keep (hb7.trans (hb.mono hb7.size))).hk ⟨(slot, gen), hrw⟩)
  dsimp only [List.take, dsts, fill, List.drop]
  rw [eu, e12]
  clear hD hJ eu e12 hc hu hb7 HOK HM HL
  go_wp2_with fail
  refine wp_region_seq 12 (fun w1 => Below (w7).heap.size (w7) w1) (by kernel_rfl) (by kernel_rfl) (by kernel_rfl) ⟨rfl, rfl, rfl, Nat.le_refl _, fun _ _ => rfl⟩ ?_
  dsimp only [List.take]
  iterate 12
    refine Seq.cons (a' := ?_) ?_ ?_ ?_
    rotate_left
    ·
      intro w1 hw1
      have hbb := HB7.out.trans (hw1.mono HB7.out.size); have t1 := cell_of (HA.out.keep hbb).ht 1; have hn := (hbb.block _ (lt_of_block HN.out)).trans HN.out; have n0 := cell_of hn 0; have n1 := cell_of hn 1; clear hn hbb
      go_wp2_with (go_at_call 25; refine (HK.out _ hw1).mono ?_; rintro e w' ⟨rfl, hb⟩)
      refine ⟨?_, by first | assumption | (simpa using below_chain hw1 hb hw1.size)⟩
      exact rfl
    · kernel_rfl
  refine SeqI.nil ?_
  intro _ w1 _ hw1
  dsimp only [List.drop]
  have c7 := cell_of ((hw1.block _ (lt_of_block HC.out)).trans HC.out) 7
  rw [HDI.out] at c7
  have HE := hid hw1
  clear hw1
  generalize (K.beg L ⟨(slot, gen), hrw⟩).2 = st at *
  by_cases hst : st = 1
  · subst hst
    go_wp2_with fail
    go_ret
    have hbb := HB7.out.trans (HE.out.mono HB7.out.size)
    exact ⟨rfl, HB.out.trans (hbb.mono (by have := HB.out.size; have := HU.out; omega))⟩
  · have h1 : (st == 1) = false := beq_false_of_ne hst
    have h2 : (st != 1) = true := by simp [hst]
    clear hst
    go_wp2_with fail
    go_ret
    have hbb := HB7.out.trans (HE.out.mono HB7.out.size)
    exact ⟨rfl, HB.out.trans (hbb.mono (by have := HB.out.size; have := HU.out; omega))⟩
end Go.Proofs.YtnngicopphiaaaaGreatDoor.T

namespace Go.Proofs.YtnngicopphiaaaaGreatDoor
open Go.ChangeShapes Go.WideShapes Go.ChangeAt Go.RowKit Go.Burg
theorem pick_any (x n p : Int) (w : World) (h1 : 1 ≤ n) (h2 : n ≤ 4000000000) (hp : x % n = p) :
    Calls Tryz.prog 8 #[.int .i64 x, .int .i64 n] w fun e w' => e = .returned (.int .i64 p) ∧ w = w' := by
  have hlo := Int.emod_nonneg x (b := n) (by omega)
  have hhi := Int.emod_lt_of_pos x (b := n) (by omega)
  have HP := hid hp
  by_cases h0 : 0 ≤ x
  · clear hp
    go_enter Tryz.func8, Tryz.ntmps8
    go_wp2
    go_ret
    exact ⟨by simp; exact HP.out, rfl⟩
  · have hm : x.tmod n = if p = 0 then 0 else p - n := by
      rw [Int.tmod_eq_emod, hp]
      by_cases hd : n ∣ x
      · have : p = 0 := by rw [← hp]; exact Int.emod_eq_zero_of_dvd hd
        simp [this, hd]
      · have : p ≠ 0 := fun h => hd (Int.dvd_of_emod_eq_zero (by rw [hp]; exact h))
        simp [h0, hd, this]
        omega
    rw [hp] at hlo hhi
    have HM := hid hm
    by_cases hz : p = 0
    · have hq : 0 ≤ x.tmod n := by rw [hm]; simp [hz]
      have HZ := hid hz
      clear hp hm hz
      go_enter Tryz.func8, Tryz.ntmps8
      go_wp2
      go_ret
      exact ⟨by simp; rw [HM.out, HZ.out]; rfl, rfl⟩
    · have hq : x.tmod n < 0 := by rw [hm]; simp [hz]; omega
      have hq2 : -4000000000 ≤ x.tmod n := by rw [hm]; simp [hz]; omega
      have HZ := hid hz
      clear hp hm hz
      go_enter Tryz.func8, Tryz.ntmps8
      go_wp2
      go_ret
      exact ⟨by simp; rw [HM.out]; simp [HZ.out], rfl⟩
end Go.Proofs.YtnngicopphiaaaaGreatDoor

namespace Go.Proofs.YtnngicopphiaaaaGreatDoor.T
set_option maxRecDepth 8000
open Go.ChangeShapes Go.WideShapes Go.ChangeAt Go.RowKit Go.Burg
open Go.Burg.Lk
namespace Ws
open Aw (r0)
def l1 : List (Cel Nd) := (List.replicate 5 ⟨false, Nd.zero, 0⟩).set 0 ⟨true, anchorN, 1⟩
theorem live1 : S.Live l1 0 1 0 ⟨true, ⟨5, ⟨#[]⟩, ⟨#[]⟩, ⟨#[]⟩, ⟨none, 0, 0⟩, ⟨none, 0, 0⟩, true, false⟩, 1⟩ := ⟨rfl, rfl, rfl, rfl⟩
structure WS (w : World) (t sb sg kb km ab : Nat) (xv tk : Int) (W : World) : Prop where
  b : Mod (fun i => w.heap.size ≤ i) w W
  t : ∃ x : Wd, x.1 = xv ∧ TreeAt W t sb sg kb km l1 [(r0, x)] tk
  a : W.heap[ab]? = some (.cells #[.int .i64 0, .int .u32 1] 30 (0, 0))
  n : w.heap.size ≤ kb ∧ w.heap.size ≤ km ∧ ab ≠ kb ∧ ab ≠ km
section
variable {w W W' : World} {t sb sg kb km ab : Nat} {xv tk : Int}
theorem WS.keep (h : WS w t sb sg kb km ab xv tk W) (hb : Below W.heap.size W W') : WS w t sb sg kb km ab xv tk W' := by
  obtain ⟨x, e, hT⟩ := h.t
  exact ⟨h.b.trans (mod_below hb) (fun _ _ e => e), ⟨x, e, hT.keep hb⟩, (hb.block _ (lt_of_block h.a)).trans h.a, h.n⟩
theorem WS.own {x' : Wd} {tk' : Int} (h : WS w t sb sg kb km ab xv tk W) (hT : TreeAt W' t sb sg kb km l1 [(r0, x')] tk') (hM : Mod (K.Own kb km) W W') : WS w t sb sg kb km ab x'.1 tk' W' :=
  ⟨h.b.trans hM (fun i hi e => by have := h.n; rcases e with e | e <;> omega), ⟨x', rfl, hT⟩, (hM.block _ (lt_of_block h.a) (by have := h.n; rintro (e | e) <;> omega)).trans h.a, h.n⟩
theorem lkp_one (x : Wd) : K.lkp [(r0, x)] r0 = some x := by simp [K.lkp]
theorem turn_one (x : Wd) (g : Wd → Wd × Bool) : K.turnL [(r0, x)] r0 g = if (g x).2 then (0, [(r0, (g x).1)]) else (15, [(r0, x)]) := by
  unfold K.turnL
  rw [lkp_one]
  simp [setKV]
theorem free4 {x : Wd} (h : x.1 % 4 = 0) : x.free = true ∧ x.held = false := by
  have h1 := x.free_iff.2 h
  refine ⟨h1, ?_⟩
  cases e : x.held
  · rfl
  · have := x.held_iff.1 e; omega
theorem held4 {x : Wd} (h : x.1 % 4 = 1) : x.free = false ∧ x.held = true := by
  have h1 := x.held_iff.2 h
  refine ⟨?_, h1⟩
  cases e : x.free
  · rfl
  · have := x.free_iff.1 e; omega
theorem ws_begin (h : Bool) (hm : xv % 4 = if h then 1 else 0) (H : WS w t sb sg kb km ab xv tk W) : Calls Tryz.prog 7 #[.pointer (some ⟨t, 0, none⟩), .agg #[.int .i64 0, .int .u32 1]] W fun e w' => e = .returned (.tuple #[.int .u64 xv, .int .i64 (if h then 1 else 0)]) ∧ WS w t sb sg kb km ab xv tk w' := by
  obtain ⟨x, rfl, hT⟩ := H.t
  refine (tBegin_at r0 W hT).mono ?_
  rintro e w' ⟨rfl, hb⟩
  refine ⟨?_, H.keep hb⟩
  have e1 : K.beg [(r0, x)] r0 = (x.1, if h then 1 else 0) := by
    unfold K.beg
    rw [lkp_one]
    have hd : x.dead = false := by unfold Wd.dead; cases h <;> simp at hm <;> simp <;> omega
    have hl : x.locked = h := by unfold Wd.locked; cases h <;> simp at hm <;> simp <;> omega
    simp only [hd, hl]
    cases h <;> rfl
  rw [e1]
theorem ws_check (H : WS w t sb sg kb km ab xv tk W) : Calls Tryz.prog 15 #[.pointer (some ⟨t, 0, none⟩), .agg #[.int .i64 0, .int .u32 1], .int .u64 xv] W fun e w' => e = .returned (.bool true) ∧ WS w t sb sg kb km ab xv tk w' := by
  obtain ⟨x, rfl, hT⟩ := H.t
  refine (tCheck_at r0 x W hT).mono ?_
  rintro e w' ⟨rfl, hb⟩
  refine ⟨?_, H.keep hb⟩
  rw [lkp_one]
  simp
theorem ws_taken (H : WS w t sb sg kb km ab xv tk W) : Calls Tryz.prog 14 #[.pointer (some ⟨t, 0, none⟩)] W fun e w' => e = .returned (.int .i64 tk) ∧ WS w t sb sg kb km ab xv tk w' := by
  obtain ⟨x, rfl, hT⟩ := H.t
  refine (tTaken_at W hT trivial).mono ?_
  rintro e w' ⟨rfl, hb⟩
  exact ⟨rfl, H.keep hb⟩
theorem ws_held (h : Bool) (hm : xv % 4 = if h then 1 else 0) (H : WS w t sb sg kb km ab xv tk W) : Calls Tryz.prog 13 #[.pointer (some ⟨t, 0, none⟩)] W fun e w' => e = .returned (.int .i64 (if h then 1 else 0)) ∧ WS w t sb sg kb km ab xv tk w' := by
  obtain ⟨x, rfl, hT⟩ := H.t
  refine (tHeld_at W hT (by simp)).mono ?_
  rintro e w' ⟨rfl, hb⟩
  refine ⟨?_, H.keep hb⟩
  have e1 : K.heldL [(r0, x)] = if h then 1 else 0 := by
    unfold K.heldL
    cases h
    · have := (free4 (x := x) (by simpa using hm)).2
      simp [this]
    · have := (held4 (x := x) (by simpa using hm)).2
      simp [this]
  rw [e1]
  cases h <;> rfl
theorem ws_kill (H : WS w t sb sg kb km ab xv tk W) : Calls Tryz.prog 12 #[.pointer (some ⟨t, 0, none⟩), .agg #[.int .i64 0, .int .u32 1]] W fun e w' => e = .returned (.int .i64 15) ∧ WS w t sb sg kb km ab xv tk w' := by
  obtain ⟨x, rfl, hT⟩ := H.t
  refine (tKill_no 0 1 W hT live1 rfl r0 rfl).mono ?_
  rintro e w' ⟨rfl, hb⟩
  exact ⟨rfl, H.keep hb⟩
theorem ws_lock_yes (hm : xv % 4 = 0) (hx : xv ≤ 100000) (ht : 0 ≤ tk ∧ tk ≤ 1000) (H : WS w t sb sg kb km ab xv tk W) : Calls Tryz.prog 9 #[.pointer (some ⟨t, 0, none⟩), .agg #[.int .i64 0, .int .u32 1], .int .u64 xv] W fun e w' => e = .returned (.bool true) ∧ WS w t sb sg kb km ab (xv + 1) (tk + 1) w' := by
  obtain ⟨x, rfl, hT⟩ := H.t
  have hx0 := x.2
  have e1 : K.lockL [(r0, x)] r0 x = (true, [(r0, Wd.of (x.1 + 1))]) := by
    unfold K.lockL
    rw [turn_one, Wd.only, if_pos rfl, Wd.lock, if_pos (free4 hm).1]
    rfl
  have := tLock_at r0 x W hT (by omega) ht.1
  rw [e1] at this
  refine this.mono ?_
  rintro e w' ⟨rfl, hT', hM⟩
  have := H.own hT' hM
  rw [Wd.of_in _ (by omega) (by omega)] at this
  exact ⟨rfl, this⟩
theorem ws_lock_no (yv : Int) (hy : 0 ≤ yv ∧ yv ≤ 1000000) (hm : xv % 4 = 1 ∨ yv ≠ xv) (ht : 0 ≤ tk ∧ tk ≤ 1000) (H : WS w t sb sg kb km ab xv tk W) : Calls Tryz.prog 9 #[.pointer (some ⟨t, 0, none⟩), .agg #[.int .i64 0, .int .u32 1], .int .u64 yv] W fun e w' => e = .returned (.bool false) ∧ WS w t sb sg kb km ab xv tk w' := by
  obtain ⟨x, rfl, hT⟩ := H.t
  obtain ⟨y, rfl⟩ : ∃ y : Wd, y.1 = yv := ⟨⟨yv, by omega⟩, rfl⟩
  have e0 : Wd.only y x = (x, false) := by
    unfold Wd.only
    split
    · rename_i e
      subst e
      rcases hm with hm | hm
      · rw [Wd.lock, (held4 hm).1]; rfl
      · exact absurd rfl hm
    · rfl
  have e1 : K.lockL [(r0, x)] r0 y = (false, [(r0, x)]) := by
    unfold K.lockL
    rw [turn_one, e0]
    rfl
  have := tLock_at r0 y W hT (by omega) ht.1
  rw [e1] at this
  refine this.mono ?_
  rintro e w' ⟨rfl, hT', hM⟩
  exact ⟨rfl, H.own hT' hM⟩
theorem ws_back_yes (hm : xv % 4 = 1) (hx : 0 ≤ xv ∧ xv ≤ 100000) (H : WS w t sb sg kb km ab xv tk W) : Calls Tryz.prog 10 #[.pointer (some ⟨t, 0, none⟩), .agg #[.int .i64 0, .int .u32 1]] W fun e w' => e = .returned (.int .i64 0) ∧ WS w t sb sg kb km ab (xv - 1) tk w' := by
  obtain ⟨x, rfl, hT⟩ := H.t
  have e1 : K.turnL [(r0, x)] r0 Wd.drop = (0, [(r0, Wd.of (x.1 - 1))]) := by
    rw [turn_one, Wd.drop, if_pos (held4 hm).2]
    rfl
  have := tBack_at r0 W hT
  rw [e1] at this
  refine this.mono ?_
  rintro e w' ⟨rfl, hT', hM⟩
  have := H.own hT' hM
  rw [Wd.of_in _ (by omega) (by omega)] at this
  refine ⟨rfl, ?_⟩
  first | exact this | (rw [show x.1 - 1 + 4 = x.1 + 3 by omega] at this; exact this)
theorem ws_done_yes (hm : xv % 4 = 1) (hx : 0 ≤ xv ∧ xv ≤ 100000) (H : WS w t sb sg kb km ab xv tk W) : Calls Tryz.prog 11 #[.pointer (some ⟨t, 0, none⟩), .agg #[.int .i64 0, .int .u32 1]] W fun e w' => e = .returned (.int .i64 0) ∧ WS w t sb sg kb km ab (xv + 3) tk w' := by
  obtain ⟨x, rfl, hT⟩ := H.t
  have e1 : K.turnL [(r0, x)] r0 Wd.done = (0, [(r0, Wd.of (x.1 - 1 + 4))]) := by
    rw [turn_one, Wd.done, if_pos (held4 hm).2]
    rfl
  have := tDone_at r0 W hT
  rw [e1] at this
  refine this.mono ?_
  rintro e w' ⟨rfl, hT', hM⟩
  have := H.own hT' hM
  rw [Wd.of_in _ (by omega) (by omega)] at this
  refine ⟨rfl, ?_⟩
  first | exact this | (rw [show x.1 - 1 + 4 = x.1 + 3 by omega] at this; exact this)
theorem ws_back_no (hm : xv % 4 = 0) (H : WS w t sb sg kb km ab xv tk W) : Calls Tryz.prog 10 #[.pointer (some ⟨t, 0, none⟩), .agg #[.int .i64 0, .int .u32 1]] W fun e w' => e = .returned (.int .i64 15) ∧ WS w t sb sg kb km ab xv tk w' := by
  obtain ⟨x, rfl, hT⟩ := H.t
  have e1 : K.turnL [(r0, x)] r0 Wd.drop = (15, [(r0, x)]) := by
    rw [turn_one, Wd.drop, (free4 hm).2]
    rfl
  have := tBack_at r0 W hT
  rw [e1] at this
  refine this.mono ?_
  rintro e w' ⟨rfl, hT', hM⟩
  exact ⟨rfl, H.own hT' hM⟩
theorem ws_done_no (hm : xv % 4 = 0) (H : WS w t sb sg kb km ab xv tk W) : Calls Tryz.prog 11 #[.pointer (some ⟨t, 0, none⟩), .agg #[.int .i64 0, .int .u32 1]] W fun e w' => e = .returned (.int .i64 15) ∧ WS w t sb sg kb km ab xv tk w' := by
  obtain ⟨x, rfl, hT⟩ := H.t
  have e1 : K.turnL [(r0, x)] r0 Wd.done = (15, [(r0, x)]) := by
    rw [turn_one, Wd.done, (free4 hm).2]
    rfl
  have := tDone_at r0 W hT
  rw [e1] at this
  refine this.mono ?_
  rintro e w' ⟨rfl, hT', hM⟩
  exact ⟨rfl, H.own hT' hM⟩
end
end Ws
end Go.Proofs.YtnngicopphiaaaaGreatDoor.T
