/- The laws' own deeds on a purse, and the chapter's example. -/
import Derived.Test.YtkdimkaladbnpaaPurse7
import Derived.Test.YtkdimkaladbnpaaPick
namespace Go.Proofs.Ytkdimkaladbnpaa
open Go.ChangeShapes Go.WideShapes Go.ChangeAt Go.RowKit Go.Burg
open Go.Burg.Purse (St Inv wrap_in big)

variable {w : World} {b m : Nat} {s : St}

theorem act_at (h : PurseAt w b m s) (hi : Inv s) (hl : s.last < 4000000000) (what t k y : Int) (hk : 0 ≤ k) (hy : 0 ≤ y) :
    Calls Try.prog 11 #[.pointer (some ⟨b, 0, none⟩), .agg #[.int .i64 what, .int .i64 t, .int .u64 k, .int .u64 y]] w fun e w' => e = .returned (.tuple #[.int .i64 (s.act (what % 6) t k y).1, .int .i64 (s.act (what % 6) t k y).2.1]) ∧ PurseAt w' b m (s.act (what % 6) t k y).2.2 ∧ Mod (Own b m) w w' := by
  have hA := h.alloc (.cells #[.int .i64 what, .int .i64 t, .int .u64 k, .int .u64 y] 33)
  have hM0 : Mod (Own b m) w (w.alloc (.cells #[.int .i64 what, .int .i64 t, .int .u64 k, .int .u64 y] 33)) := (Mod.refl _ _).alloc _
  obtain ⟨p, hp⟩ : ∃ p, what % 6 = p := ⟨_, rfl⟩
  have h0 : 0 ≤ p := by omega
  have h5 : p < 6 := by omega
  have HC := hid (commit_at hA hi t)
  have HR := hid (refund_at hA hi t)
  have HT := hid (take_at hA hi k y hk hy)
  have HP := hid (pay_at hA hi k y hk hy)
  have HS := hid (reserve_at hA hi hl k y hk hy)
  have HI := hid (pick_any what 6 p (w.alloc (.cells #[.int .i64 what, .int .i64 t, .int .u64 k, .int .u64 y] 33)) (by omega) (by omega) hp)
  rw [hp]
  clear hp hk hy hl
  by_cases c2 : p = 2
  · subst c2
    have e1 : s.act 2 t k y = (0, s.com t) := by simp [St.act]
    rw [e1]
    clear e1
    go_enter Try.func11, Try.ntmps11
    go_wp2_with (first | (go_at_call 24; refine HI.out.mono ?_; rintro e w' ⟨rfl, rfl⟩) | (go_at_call 13; refine HC.out.mono ?_; rintro e w1 ⟨rfl, hP, hX⟩))
    go_ret2
    exact ⟨rfl, hP, hM0.trans hX (fun _ _ h => h)⟩
  by_cases c3 : p = 3
  · subst c3
    have e1 : s.act 3 t k y = (0, s.ref t) := by simp [St.act]
    rw [e1]
    clear e1
    go_enter Try.func11, Try.ntmps11
    go_wp2_with (first | (go_at_call 24; refine HI.out.mono ?_; rintro e w' ⟨rfl, rfl⟩) | (go_at_call 14; refine HR.out.mono ?_; rintro e w1 ⟨rfl, hP, hX⟩))
    go_ret2
    exact ⟨rfl, hP, hM0.trans hX (fun _ _ h => h)⟩
  by_cases c4 : p = 4
  · subst c4
    have e1 : s.act 4 t k y = (0, s.take k y) := by simp [St.act]
    rw [e1]
    clear e1
    go_enter Try.func11, Try.ntmps11
    go_wp2_with (first | (go_at_call 24; refine HI.out.mono ?_; rintro e w' ⟨rfl, rfl⟩) | (go_at_call 22; refine HT.out.mono ?_; rintro e w1 ⟨rfl, hP, hX⟩))
    go_ret2
    exact ⟨rfl, hP, hM0.trans hX (fun _ _ h => h)⟩
  by_cases c5 : p = 5
  · subst c5
    have e1 : s.act 5 t k y = (0, s.pay k y) := by simp [St.act]
    rw [e1]
    clear e1
    go_enter Try.func11, Try.ntmps11
    go_wp2_with (first | (go_at_call 24; refine HI.out.mono ?_; rintro e w' ⟨rfl, rfl⟩) | (go_at_call 23; refine HP.out.mono ?_; rintro e w1 ⟨rfl, hP, hX⟩))
    go_ret2
    exact ⟨rfl, hP, hM0.trans hX (fun _ _ h => h)⟩
  have e1 : s.act p t k y = s.res k y := by simp [St.act, c2, c3, c4, c5]
  rw [e1]
  clear e1
  have b2 : (p == 2) = false := by simpa using c2
  have b3 : (p == 3) = false := by simpa using c3
  have b4 : (p == 4) = false := by simpa using c4
  have b5 : (p == 5) = false := by simpa using c5
  clear c2 c3 c4 c5 h0 h5
  go_enter Try.func11, Try.ntmps11
  go_wp2_with (first | (go_at_call 24; refine HI.out.mono ?_; rintro e w' ⟨rfl, rfl⟩) | (go_at_call 12; refine HS.out.mono ?_; rintro e w1 ⟨rfl, hP, hX⟩))
  go_ret2
  exact ⟨rfl, hP, hM0.trans hX (fun _ _ h => h)⟩
end Go.Proofs.Ytkdimkaladbnpaa
