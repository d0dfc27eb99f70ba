/- The table's handles and numbers: up, down, Right, Asks, Allows. -/
import Derived.Test.YtgdmfledhhoedaaN0
import Derived.Test.YtgdmfledhhoedaaMaps
import Derived.OwnWalk
namespace Go.Proofs.Ytgdmfledhhoedaa.T
set_option maxRecDepth 8000
open Go.ChangeShapes Go.WideShapes Go.ChangeAt Go.RowKit Go.Burg

theorem up_any (n : Int) (w : World) (_h0 : -9223372036854775808 ≤ n) (h1 : n ≤ 9223372036854775807) : Calls Try.prog 102 #[.int .i64 n] w fun e w' => e = .returned (.int .u64 (max n 0)) ∧ w = w' := by
  go_enter Try.func102, Try.ntmps102
  go_wp2
  all_goals go_ret
  · exact ⟨congrArg (fun x => Ending.returned (Value.int .u64 x)) (by omega), rfl⟩
  · exact ⟨congrArg (fun x => Ending.returned (Value.int .u64 x)) (by omega), rfl⟩

theorem down_any (n : Int) (w : World) (h0 : -9223372036854775808 ≤ n) (h1 : n ≤ 9223372036854775807) : Calls Try.prog 103 #[.int .i64 n] w fun e w' => e = .returned (.int .u64 (max (-n) 0)) ∧ w = w' := by
  by_cases hn : 0 ≤ n
  · have hd : decide (n ≥ 0) = true := by simpa using hn
    have hN := hid hn
    clear hn
    go_enter Try.func103, Try.ntmps103
    go_wp2
    go_ret
    have := hN.out
    exact ⟨congrArg (fun x => Ending.returned (Value.int .u64 x)) (by omega), rfl⟩
  · have hd : decide (n ≥ 0) = false := by simpa using hn
    have hN := hid hn
    clear hn
    go_enter Try.func103, Try.ntmps103
    go_wp2
    go_ret
    have := hN.out
    refine ⟨congrArg (fun x => Ending.returned (Value.int .u64 x)) ?_, rfl⟩
    have e1 : ∀ x, wrap64 x = (x + 9223372036854775808) % 18446744073709551616 - 9223372036854775808 := fun _ => by unfold wrap64; rfl
    have e2 : ∀ x, IntKind.u64.wrap x = x % 18446744073709551616 := fun _ => rfl
    rw [e1 (n + 1), e1, e2 (_ - _), e2]
    omega

theorem tenant_any (tn gn rt : Int) (r : Bool) (hr : (decide (1 ≤ tn) && decide (tn ≤ 16)) = r) (w : World) : Calls Try.prog 59 #[.agg #[.int .i64 tn, .int .u32 gn, .int .u8 rt]] w fun e w' => e = .returned (.bool r) ∧ Below w.heap.size w w' := by
  subst hr
  by_cases h1 : 1 ≤ tn <;> by_cases h2 : tn ≤ 16
  all_goals try (exfalso; omega)
  all_goals
    have g1 : decide (tn ≥ 1) = decide (1 ≤ tn) := rfl
    simp only [h1, h2, decide_true, decide_false, Bool.and_true, Bool.and_false] at g1 ⊢
    go_enter Try.func59, Try.ntmps59
    go_wp2
    go_ret
    exact ⟨rfl, by (repeat (first | exact Below.refl _ _ | assumption | with_reducible refine Below.drew ?_ | with_reducible refine below_drewN ?_ | with_reducible refine Below.setCell ?_ (by first | (simp; done) | (simp; omega)) _ | with_reducible refine Below.alloc ?_ (by first | exact Nat.le_refl _ | (simp; done) | (simp; omega)) _))⟩

theorem gen_any (tn gn rt : Int) (r : Bool) (hr : decide (1 ≤ gn) = r) (w : World) : Calls Try.prog 60 #[.agg #[.int .i64 tn, .int .u32 gn, .int .u8 rt]] w fun e w' => e = .returned (.bool r) ∧ Below w.heap.size w w' := by
  subst hr
  go_enter Try.func60, Try.ntmps60
  go_wp2
  go_ret
  exact ⟨rfl, by (repeat (first | exact Below.refl _ _ | assumption | with_reducible refine Below.drew ?_ | with_reducible refine below_drewN ?_ | with_reducible refine Below.setCell ?_ (by first | (simp; done) | (simp; omega)) _ | with_reducible refine Below.alloc ?_ (by first | exact Nat.le_refl _ | (simp; done) | (simp; omega)) _))⟩

theorem rights_any (tn gn rt : Int) (r : Bool) (hr : (decide (1 ≤ rt) && decide (rt ≤ 7)) = r) (w : World) : Calls Try.prog 61 #[.agg #[.int .i64 tn, .int .u32 gn, .int .u8 rt]] w fun e w' => e = .returned (.bool r) ∧ Below w.heap.size w w' := by
  subst hr
  by_cases h1 : 1 ≤ rt <;> by_cases h2 : rt ≤ 7
  all_goals try (exfalso; omega)
  all_goals
    have g1 : decide (rt ≥ 1) = decide (1 ≤ rt) := rfl
    simp only [h1, h2, decide_true, decide_false, Bool.and_true, Bool.and_false] at g1 ⊢
    go_enter Try.func61, Try.ntmps61
    go_wp2
    go_ret
    exact ⟨rfl, by (repeat (first | exact Below.refl _ _ | assumption | with_reducible refine Below.drew ?_ | with_reducible refine below_drewN ?_ | with_reducible refine Below.setCell ?_ (by first | (simp; done) | (simp; omega)) _ | with_reducible refine Below.alloc ?_ (by first | exact Nat.le_refl _ | (simp; done) | (simp; omega)) _))⟩

theorem hhas_any (tn gn rt r : Int) (v : Bool) (hv : (bits .and .u8 rt r == r) = v) (w : World) : Calls Try.prog 49 #[.agg #[.int .i64 tn, .int .u32 gn, .int .u8 rt], .int .u8 r] w fun e w' => e = .returned (.bool v) ∧ Below w.heap.size w w' := by
  subst hv
  go_enter Try.func49, Try.ntmps49
  go_wp2
  go_ret
  exact ⟨rfl, by (repeat (first | exact Below.refl _ _ | assumption | with_reducible refine Below.drew ?_ | with_reducible refine below_drewN ?_ | with_reducible refine Below.setCell ?_ (by first | (simp; done) | (simp; omega)) _ | with_reducible refine Below.alloc ?_ (by first | exact Nat.le_refl _ | (simp; done) | (simp; omega)) _))⟩

/-- Is a handle valid? -/
def hRight (tn gn rt : Int) : Bool := (decide (1 ≤ tn) && decide (tn ≤ 16)) && decide (1 ≤ gn) && (decide (1 ≤ rt) && decide (rt ≤ 7))
/-- One of its three tests. -/
def hTest (tn gn rt : Int) : Nat → Bool
  | 0 => decide (1 ≤ tn) && decide (tn ≤ 16)
  | 1 => decide (1 ≤ gn)
  | _ => decide (1 ≤ rt) && decide (rt ≤ 7)

set_option maxHeartbeats 2000000 in
theorem right_any (tn gn rt : Int) (w : World) : Calls Try.prog 47 #[.agg #[.int .i64 tn, .int .u32 gn, .int .u8 rt]] w fun e w' => e = .returned (.bool (hRight tn gn rt)) ∧ Below w.heap.size w w' := by
  go_enter Try.func47, Try.ntmps47
  go_wp2_with fail
  go_loopw [13] (fun iv wr => ∃ k : Nat, k ≤ 3 ∧ iv = .int .i64 k ∧ (∀ j, j < k → hTest tn gn rt j = true) ∧ wr.heap[w.heap.size + 1]? = some (.cells #[.func (.func 59) #[.agg #[.int .i64 tn, .int .u32 gn, .int .u8 rt]] #[], .func (.func 60) #[.agg #[.int .i64 tn, .int .u32 gn, .int .u8 rt]] #[], .func (.func 61) #[.agg #[.int .i64 tn, .int .u32 gn, .int .u8 rt]] #[]] 67) ∧ Below w.heap.size w wr) (fun iv _ => 3 - (intOf iv).toNat)
  case atStart => exact ⟨0, by omega, rfl, fun _ h => absurd h (Nat.not_lt_zero _), by simpa using heap_new (w.alloc (.cells #[.int .i64 tn, .int .u32 gn, .int .u8 rt] 116)) (.cells #[.func (.func 59) #[.agg #[.int .i64 tn, .int .u32 gn, .int .u8 rt]] #[], .func (.func 60) #[.agg #[.int .i64 tn, .int .u32 gn, .int .u8 rt]] #[], .func (.func 61) #[.agg #[.int .i64 tn, .int .u32 gn, .int .u8 rt]] #[]] 67), by (repeat (first | exact Below.refl _ _ | assumption | with_reducible refine Below.drew ?_ | with_reducible refine below_drewN ?_ | with_reducible refine Below.setCell ?_ (by first | (simp; done) | (simp; omega)) _ | with_reducible refine Below.alloc ?_ (by first | exact Nat.le_refl _ | (simp; done) | (simp; omega)) _))⟩
  case round =>
    obtain ⟨k, hk, rfl, hp, hS, hB⟩ := hrel
    have HP := hid hp
    have HB := hid hB
    have HS := hid hS
    clear hp hB
    have s0 := cell_of hS 0
    have s1 := cell_of hS 1
    have s2 := cell_of hS 2
    clear hS
    rcases (by omega : k = 0 ∨ k = 1 ∨ k = 2 ∨ k = 3) with rfl | rfl | rfl | rfl
    · have HC := hid (fun r hr w => tenant_any tn gn rt r hr w)
      cases ht : hTest tn gn rt 0
      · have HT := hid ht
        have HD := hid (fun w => HC.out false ht w)
        clear ht
        go_wp2_with (go_at_call 59; refine (HD.out _).mono ?_; rintro e w2 ⟨rfl, hB2⟩; have HB2 := hid hB2; clear hB2)
        go_ret
        refine ⟨?_, HB.out.trans (HB2.out.mono HB.out.size)⟩
        have := HT.out
        simp only [hTest] at this
        simp [hRight, this]
      · have HT := hid ht
        have HD := hid (fun w => HC.out true ht w)
        clear ht
        go_wp2_with (go_at_call 59; refine (HD.out _).mono ?_; rintro e w2 ⟨rfl, hB2⟩; have HB2 := hid hB2; clear hB2)
        go_roundw
        case rel => exact ⟨0 + 1, by omega, by go_num, fun j hj => by
          rcases Nat.lt_succ_iff_lt_or_eq.1 hj with h | rfl
          · exact HP.out j h
          · exact HT.out, blk_below HS.out HB2.out (lt_of_block HS.out), HB.out.trans (HB2.out.mono HB.out.size)⟩
        case measure => simp [intOf]
    · have HC := hid (fun r hr w => gen_any tn gn rt r hr w)
      cases ht : hTest tn gn rt 1
      · have HT := hid ht
        have HD := hid (fun w => HC.out false ht w)
        clear ht
        go_wp2_with (go_at_call 60; refine (HD.out _).mono ?_; rintro e w2 ⟨rfl, hB2⟩; have HB2 := hid hB2; clear hB2)
        go_ret
        refine ⟨?_, HB.out.trans (HB2.out.mono HB.out.size)⟩
        have := HT.out
        simp only [hTest] at this
        simp [hRight, this]
      · have HT := hid ht
        have HD := hid (fun w => HC.out true ht w)
        clear ht
        go_wp2_with (go_at_call 60; refine (HD.out _).mono ?_; rintro e w2 ⟨rfl, hB2⟩; have HB2 := hid hB2; clear hB2)
        go_roundw
        case rel => exact ⟨1 + 1, by omega, by go_num, fun j hj => by
          rcases Nat.lt_succ_iff_lt_or_eq.1 hj with h | rfl
          · exact HP.out j h
          · exact HT.out, blk_below HS.out HB2.out (lt_of_block HS.out), HB.out.trans (HB2.out.mono HB.out.size)⟩
        case measure => simp [intOf]
    · have HC := hid (fun r hr w => rights_any tn gn rt r hr w)
      cases ht : hTest tn gn rt 2
      · have HT := hid ht
        have HD := hid (fun w => HC.out false ht w)
        clear ht
        go_wp2_with (go_at_call 61; refine (HD.out _).mono ?_; rintro e w2 ⟨rfl, hB2⟩; have HB2 := hid hB2; clear hB2)
        go_ret
        refine ⟨?_, HB.out.trans (HB2.out.mono HB.out.size)⟩
        have := HT.out
        simp only [hTest] at this
        simp [hRight, this]
      · have HT := hid ht
        have HD := hid (fun w => HC.out true ht w)
        clear ht
        go_wp2_with (go_at_call 61; refine (HD.out _).mono ?_; rintro e w2 ⟨rfl, hB2⟩; have HB2 := hid hB2; clear hB2)
        go_roundw
        case rel => exact ⟨2 + 1, by omega, by go_num, fun j hj => by
          rcases Nat.lt_succ_iff_lt_or_eq.1 hj with h | rfl
          · exact HP.out j h
          · exact HT.out, blk_below HS.out HB2.out (lt_of_block HS.out), HB.out.trans (HB2.out.mono HB.out.size)⟩
        case measure => simp [intOf]
    · go_wp2_with fail
      go_ret
      refine ⟨?_, HB.out⟩
      have h0 := HP.out 0 (by omega)
      have h1 := HP.out 1 (by omega)
      have h2 := HP.out 2 (by omega)
      simp only [hTest] at h0 h1 h2
      simp [hRight, h0, h1, h2]
end Go.Proofs.Ytgdmfledhhoedaa.T
