/- The tree: free; what goes through the nodes below an anchor without kids. -/
import Derived.Test.YtiddojegcbpafaaTA
import Derived.Test.YtiddojegcbpafaaN4
import Derived.Test.YtiddojegcbpafaaTurn
import Derived.RangeFuncNested
import Derived.RangeFuncBound
import Derived.RangeFuncCalls
import Derived.RangeFuncLeaves
import Derived.WalkKit
import Derived.Shelf.Abstract
import Derived.OwnWalkIn
import Derived.TacticsInMore
import Derived.LoopNIn
import Derived.LoopIn
namespace Go.Proofs.Ytiddojegcbpafaa.T
set_option maxRecDepth 8000
open Go.ChangeShapes Go.WideShapes Go.ChangeAt Go.RowKit Go.Burg
open Go.Burg.Lk
set_option maxHeartbeats 4000000 in
theorem pfree_at {t sb sg kb km i : Nat} {l : List (Cel Nd)} {L : List (RefK × Wd)} {c : Cel Nd} (slot gen : Int) (w : World) (h : TreeAt w t sb sg kb km l L) (hL : S.Live l slot gen i c) (r : RefK) (hr1 : r.1.1 = slot) (hr2 : r.1.2 = gen) :
    Calls Try.prog 38 #[.pointer (some ⟨t, 0, none⟩), .agg #[.int .i64 slot, .int .u32 gen]] w fun e w' => e = .returned (.tuple #[]) ∧ TreeAt w' t sb sg kb km (l.set i ⟨false, Nd.zero, c.gen⟩) (K.goneL L r).2 ∧ Mod (TOwn sg km) w w' := by
  have hN := heap_new w (.cells #[.int .i64 slot, .int .u32 gen] 72 (0, 0))
  have hA := h.alloc (.cells #[.int .i64 slot, .int .u32 gen] 72 (0, 0))
  have hB : Below w.heap.size w (w.alloc (.cells #[.int .i64 slot, .int .u32 gen] 72 (0, 0))) := (Below.refl _ _).alloc (Nat.le_refl _) _
  have hu1 : w.heap.size ≠ sg := by have := h.hs.glt; omega
  have hu2 : w.heap.size ≠ km := by have := h.hk.lt.2; omega
  obtain ⟨hn1, hn2, hn3, hn4, hn5, hn6, hn7⟩ := h.ne
  generalize hW : w.alloc (.cells #[.int .i64 slot, .int .u32 gen] 72 (0, 0)) = W at *
  generalize hu : w.heap.size = u at *
  have HU := hid hu
  have HW := hid hW
  have HT := hid hA.ht
  have HS := hid hA.hs
  have HK := hid hA.hk
  have HN := hid hN
  have HB := hid hB
  have HR1 := hid hr1
  have HR2 := hid hr2
  clear hW hA hN hB h hr1 hr2 hu
  go_enter Try.func38, Try.ntmps38
  go_wp2_with fail
  rw [HW.out, HU.out]
  refine wp_region_seqI 6 (Turn 5 (fun w1 => Mod (· = sg) W w1 ∧ SlabN 145 128 w1 sb sg l) (fun w1 => Mod (· = sg) W w1 ∧ SlabN 145 128 w1 sb sg (l.set i ⟨false, Nd.zero, c.gen⟩))) (by kernel_rfl) (by kernel_rfl) (by kernel_rfl) (Turn.start ⟨(Mod.refl (· = sg) W).drew, HS.out.same rfl rfl⟩) ?_
  dsimp only [List.take]
  iterate 5
    refine Seq.calm (a' := ?_) (by decide) ?_ ?_ ?_
    rotate_left
    ·
      intro w1 hw1
      have hM : Mod (· = sg) W w1 := hw1.elim (·.1) (·.1)
      have ht1 := (hM.block t (lt_of_block HT.out) hn1).trans HT.out
      have hn1 := (hM.block u (lt_of_block HN.out) hu1).trans HN.out
      have t0 := cell_of ht1 0
      have t1 := cell_of ht1 1
      have n0 := cell_of hn1 0
      have n1 := cell_of hn1 1
      clear hM ht1 hn1 hw1
      go_wp2_with (fail)
      first | (refine ⟨?_, id, id⟩; exact rfl) | (refine ⟨?_, fail⟩; exact rfl)
    · kernel_rfl
  refine Seq.turn (a' := ?_) ?_ ?_ ?_
  rotate_left
  ·
    intro w1 hw1
    have HM := hid hw1.1
    have HS1 := hid hw1.2
    clear hw1
    go_wp2_with (go_at_call 48; refine (S.free_live slot gen _ HS1.out hL).mono ?_; rintro e w2 ⟨rfl, hS, hX⟩)
    refine ⟨?_, HM.out.trans hX (fun _ _ h => h), hS⟩
    exact rfl
  · kernel_rfl
  iterate 0
    refine Seq.calm (a' := ?_) (by decide) ?_ ?_ ?_
    rotate_left
    ·
      intro w1 hw1
      have hM : Mod (· = sg) W w1 := hw1.elim (·.1) (·.1)
      have ht1 := (hM.block t (lt_of_block HT.out) hn1).trans HT.out
      have hn1 := (hM.block u (lt_of_block HN.out) hu1).trans HN.out
      have t0 := cell_of ht1 0
      have t1 := cell_of ht1 1
      have n0 := cell_of hn1 0
      have n1 := cell_of hn1 1
      clear hM ht1 hn1 hw1
      go_wp2_with (fail)
      first | (refine ⟨?_, id, id⟩; exact rfl) | (refine ⟨?_, fail⟩; exact rfl)
    · kernel_rfl
  refine SeqI.nil ?_
  intro D w1 hD hI
  replace hI := hI.done (hD 5 (by omega))
  clear hD
  dsimp only [List.drop]
  obtain ⟨hM1, hS1⟩ := hI
  have HT2 := hid ((hM1.block t (lt_of_block HT.out) hn1).trans HT.out)
  have HN2 := hid ((hM1.block u (lt_of_block HN.out) hu1).trans HN.out)
  have HK2 := hid (HK.out.mod hM1 hn5 (fun e => hn7 e.symm))
  have HM1 := hid hM1
  have HS1 := hid hS1
  clear hM1 hS1 HT HN HK HS
  have HT := HT2
  have HN := HN2
  have HK := HK2
  clear HT2 HN2 HK2
  rename World => w3
  go_wp2_with fail
  refine wp_region_seqI 6 (Turn 5 (fun w1 => Mod (· = km) w3 w1 ∧ MapOf refV K.wV w1 km L) (fun w1 => Mod (· = km) w3 w1 ∧ MapOf refV K.wV w1 km (K.goneL L r).2)) (by kernel_rfl) (by kernel_rfl) (by kernel_rfl) (Turn.start ⟨(Mod.refl (· = km) w3).drew, HK.out.2.same rfl⟩) ?_
  dsimp only [List.take]
  iterate 5
    refine Seq.calm (a' := ?_) (by decide) ?_ ?_ ?_
    rotate_left
    ·
      intro w1 hw1
      have hM : Mod (· = km) w3 w1 := hw1.elim (·.1) (·.1)
      have ht1 := (hM.block t (lt_of_block HT.out) hn2).trans HT.out
      have hn1 := (hM.block u (lt_of_block HN.out) hu2).trans HN.out
      have t0 := cell_of ht1 0
      have t1 := cell_of ht1 1
      have n0 := cell_of hn1 0
      have n1 := cell_of hn1 1
      clear hM ht1 hn1 hw1
      go_wp2_with (fail)
      first | (refine ⟨?_, id, id⟩; exact rfl) | (refine ⟨?_, fail⟩; exact rfl)
    · kernel_rfl
  refine Seq.turn (a' := ?_) ?_ ?_ ?_
  rotate_left
  ·
    intro w1 hw1
    have hK1 : K.LocksAt w1 kb km L 0 := ⟨(hw1.1.block kb HK.out.lt.1 hn6).trans HK.out.1, hw1.2⟩
    have HAD := K.gone_at hK1 r
    rw [HR1.out, HR2.out] at HAD
    have HAD := hid HAD
    have HM := hid hw1.1
    clear hw1 hK1
    go_wp2_with (go_at_call 49; refine HAD.out.mono ?_; rintro e w2 ⟨rfl, hP, hX⟩)
    refine ⟨?_, HM.out.trans hX (fun _ _ h => h), hP⟩
    exact rfl
  · kernel_rfl
  iterate 0
    refine Seq.calm (a' := ?_) (by decide) ?_ ?_ ?_
    rotate_left
    ·
      intro w1 hw1
      have hM : Mod (· = km) w3 w1 := hw1.elim (·.1) (·.1)
      have ht1 := (hM.block t (lt_of_block HT.out) hn2).trans HT.out
      have hn1 := (hM.block u (lt_of_block HN.out) hu2).trans HN.out
      have t0 := cell_of ht1 0
      have t1 := cell_of ht1 1
      have n0 := cell_of hn1 0
      have n1 := cell_of hn1 1
      clear hM ht1 hn1 hw1
      go_wp2_with (fail)
      first | (refine ⟨?_, id, id⟩; exact rfl) | (refine ⟨?_, fail⟩; exact rfl)
    · kernel_rfl
  refine SeqI.nil ?_
  intro D w1 hD hI
  replace hI := hI.done (hD 5 (by omega))
  clear hD
  dsimp only [List.drop]
  obtain ⟨hM2, hP2⟩ := hI
  go_wp2
  go_end0
  have hMa : Mod (TOwn sg km) w w3 := (Mod.ofBelow (S := TOwn sg km) (by rw [HU.out]; exact HB.out)).trans HM1.out (fun _ _ h => .inl h)
  exact ⟨rfl, ⟨(hM2.block t (lt_of_block HT.out) hn2).trans HT.out, HS1.out.mod hM2 hn3 hn7, (hM2.block kb HK.out.lt.1 hn6).trans HK.out.1, hP2⟩, hMa.trans hM2 (fun _ _ h => .inr h)⟩

theorem below_at {t : Nat} (slot gen : Int) (w : World) :
    Calls Try.prog 37 #[.pointer (some ⟨t, 0, none⟩), .agg #[.int .i64 slot, .int .u32 gen]] w fun e w' => e = .returned (.func (.func 46) #[] #[.pointer (some ⟨w.heap.size, 0, none⟩), .pointer (some ⟨w.heap.size + 1, 0, none⟩)]) ∧ w' = (w.alloc (.cells #[.pointer (some ⟨t, 0, none⟩)] 24 (0, 0))).alloc (.cells #[.int .i64 slot, .int .u32 gen] 72 (0, 0)) := by
  have hmf : ∀ (fn : Fn) (first cap : Array Value) (w : World), (Instr.makeFunc fn first cap).run Try.prog w = .ok (.func fn first cap) w := fun _ _ _ _ => rfl
  go_enter Try.func37, Try.ntmps37
  go_wp2_with fail
  go_ret
  exact ⟨rfl, rfl⟩
end Go.Proofs.Ytiddojegcbpafaa.T
