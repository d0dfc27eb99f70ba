/- The chapter's example. -/
import Derived.Test.YtkdimkaladbnpaaPurse8
namespace Go.Proofs.Ytkdimkaladbnpaa
open Go.ChangeShapes Go.WideShapes Go.ChangeAt Go.RowKit Go.Burg
open Go.Burg.Purse (St Inv wrap_in big)

theorem mod_new {w w1 w2 : World} {b m : Nat} (h : Mod (fun i => w.heap.size ≤ i) w w1) (h2 : Mod (Own b m) w1 w2) (hb : w.heap.size ≤ b) (hm : w.heap.size ≤ m) : Mod (fun i => w.heap.size ≤ i) w w2 :=
  h.trans h2 fun i _ h => by rcases h with rfl | rfl <;> assumption
theorem mod_bel {S : Nat → Prop} {w w1 w2 : World} (h : Mod S w w1) (h2 : Below w1.heap.size w1 w2) : Mod S w w2 :=
  h.trans (S' := fun _ => False) (Mod.ofBelow h2) fun _ _ h => h.elim
theorem mod_end {w w1 : World} (h : Mod (fun i => w.heap.size ≤ i) w w1) : Below w.heap.size w w1 := h.below (Nat.le_refl _) fun i hi hh => by omega

def s0 : St := ⟨2, 10, 0, 0, 0, 0, 0, []⟩
def s1 : St := ⟨2, 10, 0, 0, 1, 6, 1, [(1, 1, 6)]⟩
def s2 : St := ⟨2, 10, 0, 0, 2, 10, 2, [(1, 1, 6), (2, 1, 4)]⟩
def s3 : St := ⟨2, 10, 1, 6, 1, 4, 2, [(2, 1, 4)]⟩
def s4 : St := ⟨2, 10, 1, 6, 0, 0, 2, []⟩
theorem i0 : Inv s0 := Purse.Inv.new (mk := 2) (mb := 10) (by decide) (by decide) (by decide) (by decide)
theorem e1 : s0.res 1 6 = (1, 0, s1) := rfl
theorem e2 : s1.res 1 5 = (0, 10, s1) := rfl
theorem e3 : s1.res 1 4 = (2, 0, s2) := rfl
theorem e4 : s2.com 1 = (0, s3) := rfl
theorem e5 : s3.ref 2 = (0, s4) := rfl
theorem e6 : s4.pay 1 7 = (10, s4) := rfl
theorem i1 : Inv s1 := by have := i0.res (k := 1) (y := 6) (by decide) (by decide); rwa [e1] at this
theorem i2 : Inv s2 := by have := i1.res (k := 1) (y := 4) (by decide) (by decide); rwa [e3] at this
theorem i3 : Inv s3 := by have := i2.com 1; rwa [e4] at this
theorem i4 : Inv s4 := by have := i3.ref 2; rwa [e5] at this

theorem awake_any (w : World) : Calls Try.prog 9 #[] w fun e w' => e = .returned (.bool true) ∧ Below w.heap.size w w' := by
  go_enter Try.func9, Try.ntmps9
  go_wp2_with fail
  refine (new_at 2 10 _).mono ?_
  rintro e w1 ⟨b, m, rfl, hP, hb, hm, hB⟩
  have hM1 : Mod (fun i => w.heap.size ≤ i) w w1 := Mod.ofBelow hB
  clear hB
  go_wp2_with fail
  have R := reserve_at (s := s0) hP i0 (by decide) 1 6 (by decide) (by decide)
  rw [e1] at R
  refine R.mono ?_
  clear R
  rintro e w2 ⟨rfl, hP2, hX⟩
  have hM2 := mod_new hM1 hX hb hm
  clear hX hM1 hP
  go_wp2_with fail
  have R := reserve_at hP2 i1 (by decide) 1 5 (by decide) (by decide)
  rw [e2] at R
  refine R.mono ?_
  clear R
  rintro e w3 ⟨rfl, hP3, hX⟩
  have hM3 := mod_new hM2 hX hb hm
  clear hX hM2 hP2
  go_wp2_with fail
  have R := reserve_at hP3 i1 (by decide) 1 4 (by decide) (by decide)
  rw [e3] at R
  refine R.mono ?_
  clear R
  rintro e w4 ⟨rfl, hP4, hX⟩
  have hM4 := mod_new hM3 hX hb hm
  clear hX hM3 hP3
  go_wp2_with fail
  have R := commit_at hP4 i2 1
  rw [e4] at R
  refine R.mono ?_
  clear R
  rintro e w5 ⟨rfl, hP5, hX⟩
  have hM5 := mod_new hM4 hX hb hm
  clear hX hM4 hP4
  go_wp2_with fail
  have R := refund_at hP5 i3 2
  rw [e5] at R
  refine R.mono ?_
  clear R
  rintro e w6 ⟨rfl, hP6, hX⟩
  have hM6 := mod_new hM5 hX hb hm
  clear hX hM5 hP5
  go_wp2_with fail
  refine (has_at hP6).mono ?_
  rintro e w7 ⟨rfl, hX⟩
  have hM7 := mod_bel hM6 hX
  have hP7 := hP6.keep hX
  clear hX hM6 hP6
  go_wp2_with fail
  refine (left_at hP7 i4).mono ?_
  rintro e w8 ⟨rfl, hX⟩
  have hM8 := mod_bel hM7 hX
  have hP8 := hP7.keep hX
  clear hX hM7 hP7
  go_wp2_with fail
  have R := pay_at hP8 i4 1 7 (by decide) (by decide)
  rw [e6] at R
  refine R.mono ?_
  clear R
  rintro e w9 ⟨rfl, hP9, hX⟩
  have hM9 := mod_new hM8 hX hb hm
  go_wp2_with fail
  go_ret
  exact ⟨rfl, mod_end hM9⟩
end Go.Proofs.Ytkdimkaladbnpaa
