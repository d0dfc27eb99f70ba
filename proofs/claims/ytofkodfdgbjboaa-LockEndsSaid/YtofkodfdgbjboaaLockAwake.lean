/- The chapter's example. -/
import Derived.Test.YtofkodfdgbjboaaLock7
import Derived.Test.YtofkodfdgbjboaaPick
namespace Go.Proofs.Ytofkodfdgbjboaa
open Go.ChangeShapes Go.WideShapes Go.ChangeAt Go.RowKit Go.Burg
open Go.Burg.Lk

theorem mod_bel {S : Nat → Prop} {w w1 w2 : World} (h : Mod S w w1) (h2 : Below w1.heap.size w1 w2) : Mod S w w2 :=
  h.trans (S' := fun _ => False) (Mod.ofBelow h2) fun _ _ h => h.elim
theorem mod_end {w w1 : World} (h : Mod (fun i => w.heap.size ≤ i) w w1) : Below w.heap.size w w1 := h.below (Nat.le_refl _) fun i hi hh => by omega

/-- The first use of the first place. -/
def oneK : RefK := ⟨(0, 1), by decide⟩
/-- Locks that a law has made, and its Ref's cell. -/
structure Aw (w : World) (b m c : Nat) (l : List (RefK × Wd)) (tk : Int) (w1 : World) : Prop where
  lk : LocksAt w1 b m l tk
  r : w1.heap[c]? = some (.cells #[.int .i64 0, .int .u32 1] 30)
  mod : Mod (fun i => w.heap.size ≤ i) w w1
  hb : w.heap.size ≤ b
  hm : w.heap.size ≤ m
  hcb : c ≠ b
  hcm : c ≠ m
theorem Aw.turn {w w1 w2 : World} {b m c : Nat} {l l' : List (RefK × Wd)} {tk tk' : Int} (h : Aw w b m c l tk w1) (hL : LocksAt w2 b m l' tk') (hX : Mod (Own b m) w1 w2) : Aw w b m c l' tk' w2 :=
  ⟨hL, (hX.block c (lt_of_block h.r) (fun e => by rcases e with e | e; exact h.hcb e; exact h.hcm e)).trans h.r, h.mod.trans hX (fun _ _ e => by rcases e with e | e <;> subst e; exact h.hb; exact h.hm), h.hb, h.hm, h.hcb, h.hcm⟩
theorem Aw.keep {w w1 w2 : World} {b m c : Nat} {l : List (RefK × Wd)} {tk : Int} (h : Aw w b m c l tk w1) (hB : Below w1.heap.size w1 w2) : Aw w b m c l tk w2 :=
  ⟨h.lk.keep hB, blk_below h.r hB (lt_of_block h.r), mod_bel h.mod hB, h.hb, h.hm, h.hcb, h.hcm⟩

theorem one_any (w : World) : Calls Try.prog 9 #[] w fun e w' => e = .returned (.agg #[.int .i64 0, .int .u32 1]) ∧ Below w.heap.size w w' := by
  go_enter Try.func9, Try.ntmps9
  go_wp2
  refine bodyPost_ret (v := .agg #[_, _]) (by simp [results, Try.results9, go_sem]) rfl ⟨rfl, ?_⟩
  (repeat (first | exact Below.refl _ _ | assumption | with_reducible refine Below.drew ?_ | with_reducible refine below_drewN ?_ | with_reducible refine Below.setCell ?_ (by first | (simp; done) | (simp; omega)) _ | with_reducible refine Below.alloc ?_ (by first | exact Nat.le_refl _ | (simp; done) | (simp; omega)) _))

/-- A word. -/
abbrev ow (n : Int) : List (RefK × Wd) := [(oneK, Wd.of n)]
theorem a1 : addL [] oneK = (0, ow 0) := by kernel_rfl
theorem a2 : beg (ow 0) oneK = (0, 0) := by kernel_rfl
theorem a3 : lockL (ow 0) oneK (Wd.of 0) = (true, ow 1) := by kernel_rfl
theorem a4 : lockL (ow 1) oneK (Wd.of 0) = (false, ow 1) := by kernel_rfl
theorem a5 : beg (ow 1) oneK = (1, 1) := by kernel_rfl
theorem a6 : turnL (ow 1) oneK Wd.done = (0, ow 4) := by kernel_rfl
theorem a7 : beg (ow 4) oneK = (4, 0) := by kernel_rfl
theorem a8 : lockL (ow 4) oneK (Wd.of 0) = (false, ow 4) := by kernel_rfl
theorem a9 : lockL (ow 4) oneK (Wd.of 4) = (true, ow 5) := by kernel_rfl
theorem a10 : turnL (ow 5) oneK Wd.kill = (0, ow 10) := by kernel_rfl
theorem a11 : beg (ow 10) oneK = (10, 2) := by kernel_rfl

/-- Two calls of Lock in one statement. -/
def LL (w : World) (b m c : Nat) (l0 l1 l2 : List (RefK × Wd)) (t0 t1 t2 : Int) (b1 b2 : Bool) (w1 : World) : Prop := match b1, b2 with
  | false, false => Aw w b m c l0 t0 w1
  | true, false => Aw w b m c l1 t1 w1
  | true, true => Aw w b m c l2 t2 w1
  | false, true => False
theorem LL.r {w : World} {b m c : Nat} {l0 l1 l2 : List (RefK × Wd)} {t0 t1 t2 : Int} {b1 b2 : Bool} {w1 : World} (h : LL w b m c l0 l1 l2 t0 t1 t2 b1 b2 w1) : w1.heap[c]? = some (.cells #[.int .i64 0, .int .u32 1] 30) := by
  cases b1 <;> cases b2 <;> first | exact Aw.r h | exact h.elim

set_option maxHeartbeats 1000000 in
theorem awake_any (w : World) : Calls Try.prog 7 #[] w fun e w' => e = .returned (.bool true) ∧ Below w.heap.size w w' := by
  go_enter Try.func7, Try.ntmps7
  go_wp2_with fail
  refine (new_at _).mono ?_
  rintro e w1 ⟨b, m, rfl, hP, hb, hm, hB⟩
  have hM := mod_bel (Mod.refl (fun i => w.heap.size ≤ i) w) hB
  clear hB
  go_wp2_with fail
  refine (one_any _).mono ?_
  rintro e w2 ⟨rfl, hB⟩
  have hP := hP.keep hB
  have hM := mod_bel hM hB
  have hl := hP.lt
  have H : Aw w b m w2.heap.size [] 0 (w2.alloc (.cells #[.int .i64 0, .int .u32 1] 30)) := ⟨hP.alloc _, heap_new _ _, hM.alloc _, hb, hm, by omega, by omega⟩
  clear hB hM hP hb hm hl
  have r0 := cell_of H.r 0
  have r1 := cell_of H.r 1
  go_wp2_with fail
  clear r0 r1
  have R := add_at' H.lk oneK
  rw [a1] at R
  refine R.mono ?_
  clear R
  rintro e w4 ⟨rfl, hL, hX⟩
  have H := H.turn hL hX
  clear hL hX
  have r0 := cell_of H.r 0
  have r1 := cell_of H.r 1
  go_wp2_with fail
  clear r0 r1
  have R := begin_at H.lk oneK
  rw [a2] at R
  refine R.mono ?_
  clear R
  rintro e w5 ⟨rfl, hX⟩
  have H := H.keep hX
  clear hX
  have r0 := cell_of H.r 0
  have r1 := cell_of H.r 1
  go_wp2_with fail
  clear r0 r1
  generalize w2.heap.size = c at *
  refine wp_region_seqC 6 (Turn2 2 5 (fun b1 b2 w1 => LL w b m c (ow 0) (ow 1) (ow 1) (0) (1) (1) b1 b2 w1)) (by kernel_rfl) (by kernel_rfl) (by kernel_rfl) (Turn2.start (H.keep ⟨rfl, rfl, rfl, Nat.le_refl _, fun _ _ => rfl⟩)) ?_
  dsimp only [List.take]
  iterate 2
    refine SeqC.calm (a' := ?_) (by decide) (by decide) ?_ ?_ ?_
    rotate_left
    ·
      intro b1 b2 w1 ec1 ec2 ed1 ed2 hw1
      have HW1 := hid hw1
      have r0 := cell_of hw1.r 0
      have r1 := cell_of hw1.r 1
      clear hw1 ec1 ec2 ed1 ed2
      go_wp2_with fail
      refine ⟨?_, HW1.out⟩
      exact rfl
    · kernel_rfl
  refine SeqC.fst (a' := ?_) (by decide) ?_ ?_ ?_
  rotate_left
  ·
    intro b2 w1 ed1 ed2 hw1
    obtain rfl := ed1 (by kernel_rfl)
    clear ed1 ed2
    have hw1 : Aw w b m c (ow 0) (0) w1 := hw1
    have R := lock_at0 hw1.lk oneK (Wd.of 0) (by decide) (by decide)
    rw [a3] at R
    have HR := hid R
    have HW1 := hid hw1
    clear R hw1
    go_wp2_with (go_at_call 13; refine HR.out.mono ?_; rintro e w2 ⟨rfl, hL, hX⟩)
    refine ⟨?_, HW1.out.turn hL hX⟩
    exact rfl
  · kernel_rfl
  iterate 2
    refine SeqC.calm (a' := ?_) (by decide) (by decide) ?_ ?_ ?_
    rotate_left
    ·
      intro b1 b2 w1 ec1 ec2 ed1 ed2 hw1
      have HW1 := hid hw1
      have r0 := cell_of hw1.r 0
      have r1 := cell_of hw1.r 1
      clear hw1 ec1 ec2 ed1 ed2
      go_wp2_with fail
      refine ⟨?_, HW1.out⟩
      exact rfl
    · kernel_rfl
  refine SeqC.snd (a' := ?_) (by decide) ?_ ?_ ?_
  rotate_left
  ·
    intro b1 w1 ec1 ec2 hw1
    obtain rfl := ec2 (by kernel_rfl)
    clear ec1 ec2
    have hw1 : Aw w b m c (ow 1) (1) w1 := hw1
    have R := lock_at0 hw1.lk oneK (Wd.of 0) (by decide) (by decide)
    rw [a4] at R
    have HR := hid R
    have HW1 := hid hw1
    clear R hw1
    go_wp2_with (go_at_call 13; refine HR.out.mono ?_; rintro e w2 ⟨rfl, hL, hX⟩)
    refine ⟨?_, HW1.out.turn hL hX⟩
    exact rfl
  · kernel_rfl
  refine SeqC.nil ?_
  intro D w1 hD hI
  replace hI := hI.done (hD 2 (by omega)) (hD 5 (by omega))
  clear hD
  have H : Aw w b m c (ow 1) (1) w1 := hI
  clear hI
  dsimp only [List.drop]
  have r0 := cell_of H.r 0
  have r1 := cell_of H.r 1
  go_wp2_with fail
  clear r0 r1
  have R := begin_at H.lk oneK
  rw [a5] at R
  refine R.mono ?_
  clear R
  rintro e w6 ⟨rfl, hX⟩
  have H := H.keep hX
  clear hX
  have r0 := cell_of H.r 0
  have r1 := cell_of H.r 1
  go_wp2_with fail
  clear r0 r1
  have R := done_at H.lk oneK
  rw [a6] at R
  refine R.mono ?_
  clear R
  rintro e w7 ⟨rfl, hL, hX⟩
  have H := H.turn hL hX
  clear hL hX
  have r0 := cell_of H.r 0
  have r1 := cell_of H.r 1
  go_wp2_with fail
  clear r0 r1
  have R := begin_at H.lk oneK
  rw [a7] at R
  refine R.mono ?_
  clear R
  rintro e w8 ⟨rfl, hX⟩
  have H := H.keep hX
  clear hX
  have r0 := cell_of H.r 0
  have r1 := cell_of H.r 1
  go_wp2_with fail
  clear r0 r1
  refine wp_region_seqC 6 (Turn2 2 5 (fun b1 b2 w1 => LL w b m c (ow 4) (ow 4) (ow 5) (1) (1) (2) b1 b2 w1)) (by kernel_rfl) (by kernel_rfl) (by kernel_rfl) (Turn2.start (H.keep ⟨rfl, rfl, rfl, Nat.le_refl _, fun _ _ => rfl⟩)) ?_
  dsimp only [List.take]
  iterate 2
    refine SeqC.calm (a' := ?_) (by decide) (by decide) ?_ ?_ ?_
    rotate_left
    ·
      intro b1 b2 w1 ec1 ec2 ed1 ed2 hw1
      have HW1 := hid hw1
      have r0 := cell_of hw1.r 0
      have r1 := cell_of hw1.r 1
      clear hw1 ec1 ec2 ed1 ed2
      go_wp2_with fail
      refine ⟨?_, HW1.out⟩
      exact rfl
    · kernel_rfl
  refine SeqC.fst (a' := ?_) (by decide) ?_ ?_ ?_
  rotate_left
  ·
    intro b2 w1 ed1 ed2 hw1
    obtain rfl := ed1 (by kernel_rfl)
    clear ed1 ed2
    have hw1 : Aw w b m c (ow 4) (1) w1 := hw1
    have R := lock_at0 hw1.lk oneK (Wd.of 0) (by decide) (by decide)
    rw [a8] at R
    have HR := hid R
    have HW1 := hid hw1
    clear R hw1
    go_wp2_with (go_at_call 13; refine HR.out.mono ?_; rintro e w2 ⟨rfl, hL, hX⟩)
    refine ⟨?_, HW1.out.turn hL hX⟩
    exact rfl
  · kernel_rfl
  iterate 2
    refine SeqC.calm (a' := ?_) (by decide) (by decide) ?_ ?_ ?_
    rotate_left
    ·
      intro b1 b2 w1 ec1 ec2 ed1 ed2 hw1
      have HW1 := hid hw1
      have r0 := cell_of hw1.r 0
      have r1 := cell_of hw1.r 1
      clear hw1 ec1 ec2 ed1 ed2
      go_wp2_with fail
      refine ⟨?_, HW1.out⟩
      exact rfl
    · kernel_rfl
  refine SeqC.snd (a' := ?_) (by decide) ?_ ?_ ?_
  rotate_left
  ·
    intro b1 w1 ec1 ec2 hw1
    obtain rfl := ec2 (by kernel_rfl)
    clear ec1 ec2
    have hw1 : Aw w b m c (ow 4) (1) w1 := hw1
    have R := lock_at0 hw1.lk oneK (Wd.of 4) (by decide) (by decide)
    rw [a9] at R
    have HR := hid R
    have HW1 := hid hw1
    clear R hw1
    go_wp2_with (go_at_call 13; refine HR.out.mono ?_; rintro e w2 ⟨rfl, hL, hX⟩)
    refine ⟨?_, HW1.out.turn hL hX⟩
    exact rfl
  · kernel_rfl
  refine SeqC.nil ?_
  intro D w1 hD hI
  replace hI := hI.done (hD 2 (by omega)) (hD 5 (by omega))
  clear hD
  have H : Aw w b m c (ow 5) (2) w1 := hI
  clear hI
  dsimp only [List.drop]
  have r0 := cell_of H.r 0
  have r1 := cell_of H.r 1
  go_wp2_with fail
  clear r0 r1
  have R := kill_at H.lk oneK
  rw [a10] at R
  refine R.mono ?_
  clear R
  rintro e w9 ⟨rfl, hL, hX⟩
  have H := H.turn hL hX
  clear hL hX
  have r0 := cell_of H.r 0
  have r1 := cell_of H.r 1
  go_wp2_with fail
  clear r0 r1
  have R := begin_at H.lk oneK
  rw [a11] at R
  refine R.mono ?_
  clear R
  rintro e w10 ⟨rfl, hX⟩
  have H := H.keep hX
  clear hX
  go_wp2_with fail
  go_ret
  exact ⟨rfl, mod_end H.mod⟩
end Go.Proofs.Ytofkodfdgbjboaa
