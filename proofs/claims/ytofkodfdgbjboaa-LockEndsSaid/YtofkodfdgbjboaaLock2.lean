/- Words of locks: the turners of the package of words. -/
import Derived.Test.YtofkodfdgbjboaaLock1
namespace Go.Proofs.Ytofkodfdgbjboaa
open Go.ChangeShapes Go.WideShapes Go.ChangeAt Go.RowKit Go.Burg
open Go.Burg.Lk

theorem held_any (x : Wd) (w : World) : Calls Try.prog 52 #[.agg #[.int .u64 x.1]] w fun e w' => e = .returned (.bool x.held) ∧ Below w.heap.size w w' := by
  cases hl : x.locked <;> cases hd : x.dead <;> simp only [Wd.held, hl, hd]
  all_goals
    have HL := hid (fun w => locked_any x w)
    have HD := hid (fun w => dead_any x w)
    rw [hl] at HL
    rw [hd] at HD
    have hA := heap_new w (.cells #[.int .u64 x.1] 72)
    go_enter Try.func52, Try.ntmps52
    go_wp2_with (first | (go_at_call 47; refine (HL.out _).mono ?_; rintro e w1 ⟨rfl, hb1⟩; have hA1 := blk_below hA hb1 (by simp); have cA1 := cell_of hA1 0) | (go_at_call 46; refine (HD.out _).mono ?_; rintro e w2 ⟨rfl, hb2⟩))
    go_ret
    refine ⟨rfl, ?_⟩
    first | exact below_chain (below_chain ((Below.refl _ _).alloc (Nat.le_refl _) _) hb1 (by simp)) hb2 (Nat.le_trans (by simp) hb1.size) | exact below_chain ((Below.refl _ _).alloc (Nat.le_refl _) _) hb1 (by simp)

theorem lock1_any (x : Wd) (hf : x.free = true) (w : World) : Calls Try.prog 51 #[.int .u64 x.1] w fun e w' => e = .returned (wV x.lock.1) ∧ Below w.heap.size w w' := by
  have h4 := x.free_iff.1 hf
  have hx := x.2
  have hb := bit_or1 x.2.1 x.2.2 (by omega)
  have e1 : x.lock.1 = Wd.of (x.1 + 1) := by rw [Wd.lock, if_pos hf]
  have e2 : (Wd.of (x.1 + 1)).1 = x.1 + 1 := Wd.of_in _ (by omega) (by omega)
  rw [e1, wV, e2]
  clear e1 e2 hf
  go_enter Try.func51, Try.ntmps51
  go_wp2
  go_ret
  exact ⟨rfl, Below.refl _ _⟩

theorem drop1_any (x : Wd) (hf : x.held = true) (w : World) : Calls Try.prog 53 #[.int .u64 x.1] w fun e w' => e = .returned (wV x.drop.1) ∧ Below w.heap.size w w' := by
  have h4 := x.held_iff.1 hf
  have hx := x.2
  have hb := bit_not1 x.2.1 x.2.2
  rw [show x.1 % 2 = 1 by omega] at hb
  have e1 : x.drop.1 = Wd.of (x.1 - 1) := by rw [Wd.drop, if_pos hf]
  have e2 : (Wd.of (x.1 - 1)).1 = x.1 - 1 := Wd.of_in _ (by omega) (by omega)
  rw [e1, wV, e2]
  clear e1 e2 hf
  go_enter Try.func53, Try.ntmps53
  go_wp2
  go_ret
  exact ⟨rfl, Below.refl _ _⟩

theorem done1_any (x : Wd) (hf : x.held = true) (w : World) : Calls Try.prog 54 #[.int .u64 x.1] w fun e w' => e = .returned (wV x.done.1) ∧ Below w.heap.size w w' := by
  have h4 := x.held_iff.1 hf
  have hx := x.2
  have hb := bit_not1 x.2.1 x.2.2
  rw [show x.1 % 2 = 1 by omega] at hb
  have e1 : x.done.1 = Wd.of (x.1 - 1 + 4) := by rw [Wd.done, if_pos hf]
  rw [e1, wV]
  show Calls Try.prog 54 #[.int .u64 x.1] w fun e w' => e = .returned (.int .u64 (IntKind.u64.wrap (x.1 - 1 + 4))) ∧ Below w.heap.size w w'
  clear e1 hf
  go_enter Try.func54, Try.ntmps54
  go_wp2
  go_ret
  exact ⟨rfl, Below.refl _ _⟩

theorem kill1_any (x : Wd) (hf : x.held = true) (w : World) : Calls Try.prog 55 #[.int .u64 x.1] w fun e w' => e = .returned (wV x.kill.1) ∧ Below w.heap.size w w' := by
  have h4 := x.held_iff.1 hf
  have hx := x.2
  have hb := bit_not1 x.2.1 x.2.2
  rw [show x.1 % 2 = 1 by omega] at hb
  have e0 : IntKind.u64.wrap (x.1 - 1 + 4) = (x.1 - 1 + 4) % 18446744073709551616 := rfl
  have hb2 : bits .or .u64 (IntKind.u64.wrap (x.1 - 1 + 4)) 2 = IntKind.u64.wrap (x.1 - 1 + 4) + 2 := bit_or2 (by rw [e0]; omega) (by rw [e0]; omega) (by rw [e0]; omega)
  have e1 : x.kill.1 = Wd.of ((Wd.of (x.1 - 1 + 4)).1 + 2) := by rw [Wd.kill, if_pos hf]
  have e3 : (Wd.of ((Wd.of (x.1 - 1 + 4)).1 + 2)).1 = IntKind.u64.wrap (x.1 - 1 + 4) + 2 := Wd.of_in _ (by show 0 ≤ IntKind.u64.wrap (x.1 - 1 + 4) + 2; rw [e0]; omega) (by show IntKind.u64.wrap (x.1 - 1 + 4) + 2 ≤ _; rw [e0]; omega)
  rw [e1, wV, e3]
  clear e1 hf e3 e0
  go_enter Try.func55, Try.ntmps55
  go_wp2
  go_ret
  exact ⟨rfl, Below.refl _ _⟩


theorem wturn_lock (x : Wd) (w : World) : Calls Try.prog 49 #[.agg #[.int .u64 x.1], .func (.func 50) #[.agg #[.int .u64 x.1]] #[], .func (.func 51) #[] #[]] w fun e w' => e = .returned (.tuple #[wV x.lock.1, .bool x.lock.2]) ∧ Below w.heap.size w w' := by
  cases hf : x.free
  · have e0 : x.lock = (x, false) := by rw [Wd.lock, hf]; rfl
    rw [e0]
    have HF := hid (fun w => free_any x w)
    rw [hf] at HF
    have hA := heap_new w (.cells #[.int .u64 x.1] 74)
    clear e0 hf
    go_enter Try.func49, Try.ntmps49
    go_wp2_with (go_at_call 50; refine (HF.out _).mono ?_; rintro e w1 ⟨rfl, hb1⟩; have hA1 := blk_below hA hb1 (by simp); have cA1 := cell_of hA1 0)
    go_ret2
    exact ⟨rfl, below_chain ((Below.refl _ _).alloc (Nat.le_refl _) _) hb1 (by simp)⟩
  · have e0 : x.lock.2 = true := by rw [Wd.lock, hf]; rfl
    rw [e0]
    have HF := hid (fun w => free_any x w)
    have HG := hid (fun w => lock1_any x hf w)
    rw [hf] at HF
    have hA := heap_new w (.cells #[.int .u64 x.1] 74)
    clear e0 hf
    go_enter Try.func49, Try.ntmps49
    go_wp2_with (first | (go_at_call 50; refine (HF.out _).mono ?_; rintro e w1 ⟨rfl, hb1⟩; have hA1 := blk_below hA hb1 (by simp); have cA1 := cell_of hA1 0) | (go_at_call 51; refine (HG.out _).mono ?_; rintro e w2 ⟨rfl, hb2⟩))
    go_ret2
    exact ⟨rfl, below_chain (below_chain ((Below.refl _ _).alloc (Nat.le_refl _) _) hb1 (by simp)) hb2 (Nat.le_trans (by simp) hb1.size)⟩
theorem wturn_drop (x : Wd) (w : World) : Calls Try.prog 49 #[.agg #[.int .u64 x.1], .func (.func 52) #[.agg #[.int .u64 x.1]] #[], .func (.func 53) #[] #[]] w fun e w' => e = .returned (.tuple #[wV x.drop.1, .bool x.drop.2]) ∧ Below w.heap.size w w' := by
  cases hf : x.held
  · have e0 : x.drop = (x, false) := by rw [Wd.drop, hf]; rfl
    rw [e0]
    have HF := hid (fun w => held_any x w)
    rw [hf] at HF
    have hA := heap_new w (.cells #[.int .u64 x.1] 74)
    clear e0 hf
    go_enter Try.func49, Try.ntmps49
    go_wp2_with (go_at_call 52; refine (HF.out _).mono ?_; rintro e w1 ⟨rfl, hb1⟩; have hA1 := blk_below hA hb1 (by simp); have cA1 := cell_of hA1 0)
    go_ret2
    exact ⟨rfl, below_chain ((Below.refl _ _).alloc (Nat.le_refl _) _) hb1 (by simp)⟩
  · have e0 : x.drop.2 = true := by rw [Wd.drop, hf]; rfl
    rw [e0]
    have HF := hid (fun w => held_any x w)
    have HG := hid (fun w => drop1_any x hf w)
    rw [hf] at HF
    have hA := heap_new w (.cells #[.int .u64 x.1] 74)
    clear e0 hf
    go_enter Try.func49, Try.ntmps49
    go_wp2_with (first | (go_at_call 52; refine (HF.out _).mono ?_; rintro e w1 ⟨rfl, hb1⟩; have hA1 := blk_below hA hb1 (by simp); have cA1 := cell_of hA1 0) | (go_at_call 53; refine (HG.out _).mono ?_; rintro e w2 ⟨rfl, hb2⟩))
    go_ret2
    exact ⟨rfl, below_chain (below_chain ((Below.refl _ _).alloc (Nat.le_refl _) _) hb1 (by simp)) hb2 (Nat.le_trans (by simp) hb1.size)⟩
theorem wturn_done (x : Wd) (w : World) : Calls Try.prog 49 #[.agg #[.int .u64 x.1], .func (.func 52) #[.agg #[.int .u64 x.1]] #[], .func (.func 54) #[] #[]] w fun e w' => e = .returned (.tuple #[wV x.done.1, .bool x.done.2]) ∧ Below w.heap.size w w' := by
  cases hf : x.held
  · have e0 : x.done = (x, false) := by rw [Wd.done, hf]; rfl
    rw [e0]
    have HF := hid (fun w => held_any x w)
    rw [hf] at HF
    have hA := heap_new w (.cells #[.int .u64 x.1] 74)
    clear e0 hf
    go_enter Try.func49, Try.ntmps49
    go_wp2_with (go_at_call 52; refine (HF.out _).mono ?_; rintro e w1 ⟨rfl, hb1⟩; have hA1 := blk_below hA hb1 (by simp); have cA1 := cell_of hA1 0)
    go_ret2
    exact ⟨rfl, below_chain ((Below.refl _ _).alloc (Nat.le_refl _) _) hb1 (by simp)⟩
  · have e0 : x.done.2 = true := by rw [Wd.done, hf]; rfl
    rw [e0]
    have HF := hid (fun w => held_any x w)
    have HG := hid (fun w => done1_any x hf w)
    rw [hf] at HF
    have hA := heap_new w (.cells #[.int .u64 x.1] 74)
    clear e0 hf
    go_enter Try.func49, Try.ntmps49
    go_wp2_with (first | (go_at_call 52; refine (HF.out _).mono ?_; rintro e w1 ⟨rfl, hb1⟩; have hA1 := blk_below hA hb1 (by simp); have cA1 := cell_of hA1 0) | (go_at_call 54; refine (HG.out _).mono ?_; rintro e w2 ⟨rfl, hb2⟩))
    go_ret2
    exact ⟨rfl, below_chain (below_chain ((Below.refl _ _).alloc (Nat.le_refl _) _) hb1 (by simp)) hb2 (Nat.le_trans (by simp) hb1.size)⟩
theorem wturn_kill (x : Wd) (w : World) : Calls Try.prog 49 #[.agg #[.int .u64 x.1], .func (.func 52) #[.agg #[.int .u64 x.1]] #[], .func (.func 55) #[] #[]] w fun e w' => e = .returned (.tuple #[wV x.kill.1, .bool x.kill.2]) ∧ Below w.heap.size w w' := by
  cases hf : x.held
  · have e0 : x.kill = (x, false) := by rw [Wd.kill, hf]; rfl
    rw [e0]
    have HF := hid (fun w => held_any x w)
    rw [hf] at HF
    have hA := heap_new w (.cells #[.int .u64 x.1] 74)
    clear e0 hf
    go_enter Try.func49, Try.ntmps49
    go_wp2_with (go_at_call 52; refine (HF.out _).mono ?_; rintro e w1 ⟨rfl, hb1⟩; have hA1 := blk_below hA hb1 (by simp); have cA1 := cell_of hA1 0)
    go_ret2
    exact ⟨rfl, below_chain ((Below.refl _ _).alloc (Nat.le_refl _) _) hb1 (by simp)⟩
  · have e0 : x.kill.2 = true := by rw [Wd.kill, hf]; rfl
    rw [e0]
    have HF := hid (fun w => held_any x w)
    have HG := hid (fun w => kill1_any x hf w)
    rw [hf] at HF
    have hA := heap_new w (.cells #[.int .u64 x.1] 74)
    clear e0 hf
    go_enter Try.func49, Try.ntmps49
    go_wp2_with (first | (go_at_call 52; refine (HF.out _).mono ?_; rintro e w1 ⟨rfl, hb1⟩; have hA1 := blk_below hA hb1 (by simp); have cA1 := cell_of hA1 0) | (go_at_call 55; refine (HG.out _).mono ?_; rintro e w2 ⟨rfl, hb2⟩))
    go_ret2
    exact ⟨rfl, below_chain (below_chain ((Below.refl _ _).alloc (Nat.le_refl _) _) hb1 (by simp)) hb2 (Nat.le_trans (by simp) hb1.size)⟩

theorem vLock_any (x : Wd) (w : World) : Calls Try.prog 31 #[.int .u64 x.1] w fun e w' => e = .returned (.tuple #[wV x.lock.1, .bool x.lock.2]) ∧ Below w.heap.size w w' := by
  have hmf : ∀ (fn : Fn) (first cap : Array Value) (w : World), (Instr.makeFunc fn first cap).run Try.prog w = .ok (.func fn first cap) w := fun _ _ _ _ => rfl
  go_enter Try.func31, Try.ntmps31
  go_wp2_with (first | (go_at_call 45; refine (of_any _ _).mono ?_; rintro e w1 ⟨rfl, hb1⟩) | (go_at_call 49; refine (wturn_lock x _).mono ?_; rintro e w2 ⟨rfl, hb2⟩))
  go_ret2
  exact ⟨rfl, below_chain (hb1.alloc hb1.size _) hb2 (Nat.le_trans hb1.size (by simp))⟩
theorem vDrop_any (x : Wd) (w : World) : Calls Try.prog 33 #[.int .u64 x.1] w fun e w' => e = .returned (.tuple #[wV x.drop.1, .bool x.drop.2]) ∧ Below w.heap.size w w' := by
  have hmf : ∀ (fn : Fn) (first cap : Array Value) (w : World), (Instr.makeFunc fn first cap).run Try.prog w = .ok (.func fn first cap) w := fun _ _ _ _ => rfl
  go_enter Try.func33, Try.ntmps33
  go_wp2_with (first | (go_at_call 45; refine (of_any _ _).mono ?_; rintro e w1 ⟨rfl, hb1⟩) | (go_at_call 49; refine (wturn_drop x _).mono ?_; rintro e w2 ⟨rfl, hb2⟩))
  go_ret2
  exact ⟨rfl, below_chain (hb1.alloc hb1.size _) hb2 (Nat.le_trans hb1.size (by simp))⟩
theorem vDone_any (x : Wd) (w : World) : Calls Try.prog 34 #[.int .u64 x.1] w fun e w' => e = .returned (.tuple #[wV x.done.1, .bool x.done.2]) ∧ Below w.heap.size w w' := by
  have hmf : ∀ (fn : Fn) (first cap : Array Value) (w : World), (Instr.makeFunc fn first cap).run Try.prog w = .ok (.func fn first cap) w := fun _ _ _ _ => rfl
  go_enter Try.func34, Try.ntmps34
  go_wp2_with (first | (go_at_call 45; refine (of_any _ _).mono ?_; rintro e w1 ⟨rfl, hb1⟩) | (go_at_call 49; refine (wturn_done x _).mono ?_; rintro e w2 ⟨rfl, hb2⟩))
  go_ret2
  exact ⟨rfl, below_chain (hb1.alloc hb1.size _) hb2 (Nat.le_trans hb1.size (by simp))⟩
theorem vKill_any (x : Wd) (w : World) : Calls Try.prog 35 #[.int .u64 x.1] w fun e w' => e = .returned (.tuple #[wV x.kill.1, .bool x.kill.2]) ∧ Below w.heap.size w w' := by
  have hmf : ∀ (fn : Fn) (first cap : Array Value) (w : World), (Instr.makeFunc fn first cap).run Try.prog w = .ok (.func fn first cap) w := fun _ _ _ _ => rfl
  go_enter Try.func35, Try.ntmps35
  go_wp2_with (first | (go_at_call 45; refine (of_any _ _).mono ?_; rintro e w1 ⟨rfl, hb1⟩) | (go_at_call 49; refine (wturn_kill x _).mono ?_; rintro e w2 ⟨rfl, hb2⟩))
  go_ret2
  exact ⟨rfl, below_chain (hb1.alloc hb1.size _) hb2 (Nat.le_trans hb1.size (by simp))⟩
end Go.Proofs.Ytofkodfdgbjboaa
