/- The reference's words: a word taken apart. -/
import Derived.Test.YtofkodfdgbjboaaLockDeed
namespace Go.Proofs.Ytofkodfdgbjboaa
open Go.ChangeShapes Go.WideShapes Go.ChangeAt Go.RowKit Go.Burg
open Go.Burg.Lk

theorem pof_any (x : Wd) (w : World) : Calls Try.prog 58 #[.int .u64 x.1] w fun e w' => e = .returned (.agg #[.int .u64 (x.1 / 4), .bool x.locked, .bool x.dead]) ∧ Below w.heap.size w w' := by
  have hx := x.2
  have h0 : 0 ≤ x.1 := hx.1
  have e1 : (x.1 % 2 == 1) = x.locked := by unfold Wd.locked; rw [Bool.eq_iff_iff]; simp
  have e2 : (x.1 / 2 % 2 == 1) = x.dead := by unfold Wd.dead; rw [Bool.eq_iff_iff]; simp
  have q1 : x.1.tdiv 4 = x.1 / 4 := Int.tdiv_eq_ediv_of_nonneg h0
  have q2 : x.1.tdiv 2 = x.1 / 2 := Int.tdiv_eq_ediv_of_nonneg h0
  have q3 : x.1.tmod 2 = x.1 % 2 := Int.tmod_eq_emod_of_nonneg h0
  have q4 : (x.1 / 2).tmod 2 = x.1 / 2 % 2 := Int.tmod_eq_emod_of_nonneg (by omega)
  go_enter Try.func58, Try.ntmps58
  go_wp2
  refine bodyPost_ret (v := .agg #[.int .u64 (x.1 / 4), .bool x.locked, .bool x.dead]) (by simp [results, Try.results58, go_sem]) rfl ⟨rfl, ?_⟩
  (repeat (first | exact Below.refl _ _ | assumption | with_reducible refine Below.drew ?_ | with_reducible refine below_drewN ?_ | with_reducible refine Below.setCell ?_ (by first | (simp; done) | (simp; omega)) _ | with_reducible refine Below.alloc ?_ (by first | exact Nat.le_refl _ | (simp; done) | (simp; omega)) _))

theorem fldp0 (x y z : Value) (w : World) : Sem.run Try.prog (Instr.field 81 (.agg #[x, y, z]) 0) w = .ok x w := rfl
theorem fldp1 (x y z : Value) (w : World) : Sem.run Try.prog (Instr.field 81 (.agg #[x, y, z]) 1) w = .ok y w := rfl
theorem fldp2 (x y z : Value) (w : World) : Sem.run Try.prog (Instr.field 81 (.agg #[x, y, z]) 2) w = .ok z w := rfl

theorem pfree_any (x : Wd) (w : World) : Calls Try.prog 63 #[.int .u64 x.1] w fun e w' => e = .returned (.bool x.free) ∧ Below w.heap.size w w' := by
  have HP := hid (fun w1 => pof_any x w1)
  unfold Wd.free
  generalize x.locked = a at *
  generalize x.dead = d at *
  cases a <;> cases d
  all_goals
    go_enter Try.func63, Try.ntmps63
    go_wp2_with (go_at_call 58; refine (HP.out _).mono ?_; rintro e w1 ⟨rfl, hb1⟩)
    simp only [fldp1]
    go_wp2_with (go_at_call 58; refine (HP.out _).mono ?_; rintro e w2 ⟨rfl, hb2⟩)
    try (simp only [fldp2]; go_wp2_with fail)
    go_ret
    refine ⟨rfl, ?_⟩
    first | exact below_chain hb1 hb2 hb1.size | exact hb1

theorem pword_any (v : Int) (a d : Bool) (w : World) (h0 : 0 ≤ v) (h1 : v ≤ 4611686018427387903) : Calls Try.prog 64 #[.agg #[.int .u64 (v), .bool a, .bool d]] w fun e w' => e = .returned (.int .u64 (v * 4 + (if a then 1 else 0) + (if d then 2 else 0))) ∧ Below w.heap.size w w' := by
  cases a <;> cases d <;> simp only [if_true, if_false, Bool.false_eq_true, Int.add_zero]
  all_goals
    go_enter Try.func64, Try.ntmps64
    go_wp2
    go_ret
    exact ⟨rfl, by (repeat (first | exact Below.refl _ _ | assumption | with_reducible refine Below.drew ?_ | with_reducible refine below_drewN ?_ | with_reducible refine Below.setCell ?_ (by first | (simp; done) | (simp; omega)) _ | with_reducible refine Below.alloc ?_ (by first | exact Nat.le_refl _ | (simp; done) | (simp; omega)) _))⟩

/-- A word put together from its parts. -/
theorem word_parts (x : Wd) : 0 ≤ x.1 / 4 ∧ x.1 / 4 ≤ 4611686018427387903 := by have := x.2; omega

theorem plock_any (x : Wd) (w : World) : Calls Try.prog 57 #[.int .u64 x.1] w fun e w' => e = .returned (.tuple #[wV x.lock.1, .bool x.lock.2]) ∧ Below w.heap.size w w' := by
  have HP := hid (fun w1 => pof_any x w1)
  have HF := hid (fun w1 => pfree_any x w1)
  have hx := x.2
  obtain ⟨v0, v1⟩ := word_parts x
  have HW := hid (fun w1 => pword_any (x.1 / 4) true x.dead w1 v0 v1)
  unfold Wd.lock
  cases hf : x.free
  · rw [hf] at HF
    simp only [Bool.false_eq_true, if_false]
    clear hf HW
    go_enter Try.func57, Try.ntmps57
    go_wp2_with (first | (go_at_call 58; refine (HP.out _).mono ?_; rintro e w1 ⟨rfl, hb1⟩) | (go_at_call 63; refine (HF.out _).mono ?_; rintro e w2 ⟨rfl, hb2⟩))
    go_ret2
    exact ⟨rfl, below_chain (hb1.alloc hb1.size _) hb2 (Nat.le_trans hb1.size (by simp))⟩
  · have h4 := x.free_iff.1 hf
    have hd : x.dead = false := by unfold Wd.dead; simp only [decide_eq_false_iff_not]; omega
    have e2 : (Wd.of (x.1 + 1)).1 = x.1 + 1 := Wd.of_in _ (by omega) (by omega)
    have e3 : x.1 / 4 * 4 + 1 = x.1 + 1 := by omega
    rw [hf] at HF
    rw [hd] at HP HW
    simp only [Bool.false_eq_true, if_false, if_true, Int.add_zero] at HW ⊢
    rw [e3] at HW
    unfold wV
    rw [e2]
    clear hf h4 hd e2 e3
    go_enter Try.func57, Try.ntmps57
    go_wp2_with (first | (go_at_call 58; refine (HP.out _).mono ?_; rintro e w1 ⟨rfl, hb1⟩) | (go_at_call 63; refine (HF.out _).mono ?_; rintro e w2 ⟨rfl, hb2⟩; have hk := blk_below (heap_new w1 ((.cells #[.int .u64 (x.1 / 4), .bool x.locked, .bool false] 81))) hb2 (by simp); have k0 := cell_of hk 0; have k1 := cell_of hk 1; have k2 := cell_of hk 2; have kf := free_of hk; have kl := lt_of_block hk) | (go_at_call 64; refine (HW.out _).mono ?_; rintro e w3 ⟨rfl, hb3⟩))
    go_ret2
    have hB2 : Below w.heap.size w w2 := below_chain (hb1.alloc hb1.size _) hb2 (Nat.le_trans hb1.size (by simp))
    exact ⟨rfl, below_chain (hB2.setCell hb1.size _) hb3 (Nat.le_trans hB2.size (by simp))⟩

theorem pdrop_any (x : Wd) (w : World) : Calls Try.prog 59 #[.int .u64 x.1] w fun e w' => e = .returned (.tuple #[wV x.drop.1, .bool x.drop.2]) ∧ Below w.heap.size w w' := by
  have HP := hid (fun w1 => pof_any x w1)
  have hx := x.2
  obtain ⟨v0, v1⟩ := word_parts x
  have HW := hid (fun w1 => pword_any (x.1 / 4) false false w1 v0 v1)
  simp only [Bool.false_eq_true, if_false, Int.add_zero] at HW
  cases hf : x.held
  · have e0 : x.drop = (x, false) := by rw [Wd.drop, hf]; rfl
    rw [e0]
    unfold Wd.held at hf
    generalize x.locked = a at *
    generalize x.dead = d at *
    cases a <;> cases d
    all_goals first
      | (exact absurd hf (by decide))
      | (clear hf HW e0
         go_enter Try.func59, Try.ntmps59
         go_wp2_with (go_at_call 58; refine (HP.out _).mono ?_; rintro e w1 ⟨rfl, hb1⟩)
         go_ret2
         exact ⟨rfl, hb1.alloc hb1.size _⟩)
  · have h4 := x.held_iff.1 hf
    have hd : x.dead = false := by unfold Wd.dead; simp only [decide_eq_false_iff_not]; omega
    have hl : x.locked = true := by unfold Wd.locked; simp only [decide_eq_true_eq]; omega
    have e2 : (Wd.of (x.1 - 1)).1 = x.1 - 1 := Wd.of_in _ (by omega) (by omega)
    have e3 : x.1 / 4 * 4 = x.1 - 1 := by omega
    have e0 : x.drop = (Wd.of (x.1 - 1), true) := by rw [Wd.drop, hf]; rfl
    rw [hd, hl] at HP
    rw [e3] at HW
    rw [e0]
    unfold wV
    rw [e2]
    clear hf h4 hd e2 e3 e0 hl
    go_enter Try.func59, Try.ntmps59
    go_wp2_with (first | (go_at_call 58; refine (HP.out _).mono ?_; rintro e w1 ⟨rfl, hb1⟩) | (go_at_call 64; refine (HW.out _).mono ?_; rintro e w3 ⟨rfl, hb3⟩))
    go_ret2
    have hB2 : Below w.heap.size w w1 := hb1
    exact ⟨rfl, below_chain (hB2.alloc hB2.size _) hb3 (Nat.le_trans hB2.size (by simp))⟩

theorem pdone_any (x : Wd) (w : World) : Calls Try.prog 60 #[.int .u64 x.1] w fun e w' => e = .returned (.tuple #[wV x.done.1, .bool x.done.2]) ∧ Below w.heap.size w w' := by
  have HD := hid (fun w1 => pdrop_any x w1)
  have hx := x.2
  cases hf : x.held
  · have e0 : x.done = (x, false) := by rw [Wd.done, hf]; rfl
    have e1 : x.drop = (x, false) := by rw [Wd.drop, hf]; rfl
    rw [e0]
    rw [e1] at HD
    clear hf e0 e1
    go_enter Try.func60, Try.ntmps60
    go_wp2_with (go_at_call 59; refine (HD.out _).mono ?_; rintro e w1 ⟨rfl, hb1⟩)
    go_ret2
    exact ⟨rfl, hb1⟩
  · have h4 := x.held_iff.1 hf
    have e0 : x.done = (Wd.of (x.1 - 1 + 4), true) := by rw [Wd.done, hf]; rfl
    have e1 : x.drop = (Wd.of (x.1 - 1), true) := by rw [Wd.drop, hf]; rfl
    have e2 : (Wd.of (x.1 - 1)).1 = x.1 - 1 := Wd.of_in _ (by omega) (by omega)
    have HP := hid (fun w1 => pof_any (Wd.of (x.1 - 1)) w1)
    have hd : (Wd.of (x.1 - 1)).dead = false := by unfold Wd.dead; rw [e2]; simp only [decide_eq_false_iff_not]; omega
    have hl : (Wd.of (x.1 - 1)).locked = false := by unfold Wd.locked; rw [e2]; simp only [decide_eq_false_iff_not]; omega
    rw [hd, hl, e2] at HP
    rw [e0]
    rw [e1] at HD
    unfold wV at HD ⊢
    rw [e2] at HD
    have hv : 0 ≤ ((x.1 - 1) / 4 + 1) % 4611686018427387904 ∧ ((x.1 - 1) / 4 + 1) % 4611686018427387904 ≤ 4611686018427387903 := by omega
    have HW := hid (fun w1 => pword_any (((x.1 - 1) / 4 + 1) % 4611686018427387904) false false w1 hv.1 hv.2)
    simp only [Bool.false_eq_true, if_false, Int.add_zero] at HW
    have ew : (Wd.of (x.1 - 1 + 4)).1 = (x.1 - 1 + 4) % 18446744073709551616 := rfl
    have e3 : ((x.1 - 1) / 4 + 1) % 4611686018427387904 * 4 = (x.1 - 1 + 4) % 18446744073709551616 := by omega
    rw [ew]
    rw [e3] at HW
    have hb0 : 0 ≤ (x.1 - 1) / 4 + 1 := by omega
    have hb9 : (x.1 - 1) / 4 + 1 ≤ 18446744073709551615 := by omega
    have q1 : ((x.1 - 1) / 4 + 1).tmod 4611686018427387904 = ((x.1 - 1) / 4 + 1) % 4611686018427387904 := Int.tmod_eq_emod_of_nonneg hb0
    clear hf h4 hd e2 e3 e0 hl e1 ew hv
    go_enter Try.func60, Try.ntmps60
    go_wp2_with (first | (go_at_call 59; refine (HD.out _).mono ?_; rintro e w1 ⟨rfl, hb1⟩) | (go_at_call 58; refine (HP.out _).mono ?_; rintro e w2 ⟨rfl, hb2⟩) | (go_at_call 64; refine (HW.out _).mono ?_; rintro e w3 ⟨rfl, hb3⟩))
    go_ret2
    have hB2 : Below w.heap.size w w2 := below_chain hb1 hb2 hb1.size
    exact ⟨rfl, below_chain (hB2.alloc hB2.size _) hb3 (Nat.le_trans hB2.size (by simp))⟩

theorem pkill_any (x : Wd) (w : World) : Calls Try.prog 61 #[.int .u64 x.1] w fun e w' => e = .returned (.tuple #[wV x.kill.1, .bool x.kill.2]) ∧ Below w.heap.size w w' := by
  have HD := hid (fun w1 => pdone_any x w1)
  have hx := x.2
  cases hf : x.held
  · have e0 : x.kill = (x, false) := by rw [Wd.kill, hf]; rfl
    have e1 : x.done = (x, false) := by rw [Wd.done, hf]; rfl
    rw [e0]
    rw [e1] at HD
    clear hf e0 e1
    go_enter Try.func61, Try.ntmps61
    go_wp2_with (go_at_call 60; refine (HD.out _).mono ?_; rintro e w1 ⟨rfl, hb1⟩)
    go_ret2
    exact ⟨rfl, hb1⟩
  · have h4 := x.held_iff.1 hf
    have e0 : x.kill = (Wd.of ((Wd.of (x.1 - 1 + 4)).1 + 2), true) := by rw [Wd.kill, hf]; rfl
    have e1 : x.done = (Wd.of (x.1 - 1 + 4), true) := by rw [Wd.done, hf]; rfl
    have e2 : (Wd.of (x.1 - 1 + 4)).1 = (x.1 - 1 + 4) % 18446744073709551616 := rfl
    have HP := hid (fun w1 => pof_any (Wd.of (x.1 - 1 + 4)) w1)
    have hd : (Wd.of (x.1 - 1 + 4)).dead = false := by unfold Wd.dead; rw [e2]; simp only [decide_eq_false_iff_not]; omega
    have hl : (Wd.of (x.1 - 1 + 4)).locked = false := by unfold Wd.locked; rw [e2]; simp only [decide_eq_false_iff_not]; omega
    have e5 : (Wd.of ((Wd.of (x.1 - 1 + 4)).1 + 2)).1 = (Wd.of (x.1 - 1 + 4)).1 + 2 := Wd.of_in _ (by rw [e2]; omega) (by rw [e2]; omega)
    rw [hd, hl] at HP
    rw [e0]
    rw [e1] at HD
    unfold wV at HD ⊢
    rw [e5]
    obtain ⟨v0, v1⟩ := word_parts (Wd.of (x.1 - 1 + 4))
    have HW := hid (fun w1 => pword_any ((Wd.of (x.1 - 1 + 4)).1 / 4) false true w1 v0 v1)
    simp only [Bool.false_eq_true, if_false, if_true, Int.add_zero] at HW
    have e3 : (Wd.of (x.1 - 1 + 4)).1 / 4 * 4 + 2 = (Wd.of (x.1 - 1 + 4)).1 + 2 := by rw [e2]; omega
    rw [e3] at HW
    generalize (Wd.of (x.1 - 1 + 4)).1 = z at *
    clear hf h4 hd e2 e3 e0 hl e1 e5 v0 v1
    go_enter Try.func61, Try.ntmps61
    go_wp2_with (first | (go_at_call 60; refine (HD.out _).mono ?_; rintro e w1 ⟨rfl, hb1⟩) | (go_at_call 58; refine (HP.out _).mono ?_; rintro e w2 ⟨rfl, hb2⟩) | (go_at_call 64; refine (HW.out _).mono ?_; rintro e w3 ⟨rfl, hb3⟩))
    go_ret2
    have hB2 : Below w.heap.size w w2 := below_chain hb1 hb2 hb1.size
    exact ⟨rfl, below_chain (hB2.alloc hB2.size _) hb3 (Nat.le_trans hB2.size (by simp))⟩
end Go.Proofs.Ytofkodfdgbjboaa
