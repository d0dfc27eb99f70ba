/- The kit's Pick: a number brought into 0 to n - 1. -/
import Derived.Test.YtofkodfdgbjboaaRows
import Derived.Test.YtofkodfdgbjboaaBase
namespace Go.Proofs.Ytofkodfdgbjboaa
open Go.ChangeShapes Go.WideShapes Go.ChangeAt Go.RowKit Go.Burg

theorem pick_any (x n p : Int) (w : World) (h1 : 1 ≤ n) (h2 : n ≤ 4000000000) (hp : x % n = p) :
    Calls Try.prog 12 #[.int .i64 x, .int .i64 n] w fun e w' => e = .returned (.int .i64 p) ∧ w = w' := by
  have hlo := Int.emod_nonneg x (b := n) (by omega)
  have hhi := Int.emod_lt_of_pos x (b := n) (by omega)
  have HP := hid hp
  by_cases h0 : 0 ≤ x
  · clear hp
    go_enter Try.func12, Try.ntmps12
    go_wp2
    go_ret
    exact ⟨by simp; exact HP.out, rfl⟩
  · have hm : x.tmod n = if p = 0 then 0 else p - n := by
      rw [Int.tmod_eq_emod, hp]
      by_cases hd : n ∣ x
      · have : p = 0 := by rw [← hp]; exact Int.emod_eq_zero_of_dvd hd
        simp [this, hd]
      · have : p ≠ 0 := fun h => hd (Int.dvd_of_emod_eq_zero (by rw [hp]; exact h))
        simp [h0, hd, this]
        omega
    rw [hp] at hlo hhi
    have HM := hid hm
    by_cases hz : p = 0
    · have hq : 0 ≤ x.tmod n := by rw [hm]; simp [hz]
      have HZ := hid hz
      clear hp hm hz
      go_enter Try.func12, Try.ntmps12
      go_wp2
      go_ret
      exact ⟨by simp; rw [HM.out, HZ.out]; rfl, rfl⟩
    · have hq : x.tmod n < 0 := by rw [hm]; simp [hz]; omega
      have hq2 : -4000000000 ≤ x.tmod n := by rw [hm]; simp [hz]; omega
      have HZ := hid hz
      clear hp hm hz
      go_enter Try.func12, Try.ntmps12
      go_wp2
      go_ret
      exact ⟨by simp; rw [HM.out]; simp [HZ.out], rfl⟩
end Go.Proofs.Ytofkodfdgbjboaa
