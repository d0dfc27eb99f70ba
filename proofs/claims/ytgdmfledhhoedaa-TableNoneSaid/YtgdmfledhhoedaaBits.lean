/- The bits of a word of 64 bits: the first two. -/
import Derived.Test.YtgdmfledhhoedaaBase
import Derived.Laws.Bits64b
import Derived.Laws.BitsAllLaws
namespace Go.Burg
open Go
section
variable {x : Int} (h0 : 0 ≤ x) (h1 : x ≤ 18446744073709551615)
include h0 h1
theorem bit_and1 : bits .and .u64 x 1 = x % 2 := by
  rw [u64_and x 1 h0 (by omega) (by omega) (by omega)]
  have : x.toNat &&& (1 : Int).toNat = x.toNat % 2 := nat_mask1 _
  rw [this]
  omega
theorem bit_and2 : bits .and .u64 x 2 = x / 2 % 2 * 2 := by
  rw [u64_and x 2 h0 (by omega) (by omega) (by omega)]
  have : x.toNat &&& (2 : Int).toNat = x.toNat / 2 % 2 * 2 := nat_bit 1 _
  rw [this]
  omega
theorem bit_or1 (h : x % 2 = 0) : bits .or .u64 x 1 = x + 1 := by
  rw [u64_or x 1 h0 (by omega) (by omega) (by omega)]
  have : x.toNat ||| (1 : Int).toNat = x.toNat + 1 := nat_join 1 _ 1 (by omega) (by omega)
  rw [this]
  omega
theorem bit_or2 (h : x % 4 = 0) : bits .or .u64 x 2 = x + 2 := by
  rw [u64_or x 2 h0 (by omega) (by omega) (by omega)]
  have : x.toNat ||| (2 : Int).toNat = x.toNat + 2 := nat_join 2 _ 2 (by omega) (by omega)
  rw [this]
  omega
theorem bit_not1 : bits .andNot .u64 x 1 = x - x % 2 := by
  rw [u64_andNot x 1 h0 (by omega) (by omega) (by omega)]
  have h2 : x.toNat &&& (18446744073709551615 - (1 : Int).toNat) = 2 * (x.toNat / 2) := by
    have e1 : (x.toNat &&& 18446744073709551614) / 2 = x.toNat / 2 := by
      rw [Nat.and_div_two]
      have : x.toNat / 2 &&& 18446744073709551614 / 2 = x.toNat / 2 % 2 ^ 63 := Nat.and_two_pow_sub_one_eq_mod _ 63
      rw [this]
      omega
    have e2 : (x.toNat &&& 18446744073709551614) % 2 = 0 := by
      have := Nat.and_mod_two_pow (a := x.toNat) (b := 18446744073709551614) (n := 1)
      simpa using this
    show x.toNat &&& 18446744073709551614 = _
    omega
  rw [h2]
  omega
end
theorem bit_xor1 {x : Int} (h0 : 0 ≤ x) (h1 : x ≤ 18446744073709551615) : bits .xor .u64 x 1 = if x % 2 = 0 then x + 1 else x - 1 := by
  rw [u64_xor x 1 h0 (by omega) (by omega) (by omega)]
  show ((x.toNat ^^^ 1 : Nat) : Int) = _
  have e1 : (x.toNat ^^^ 1) / 2 = x.toNat / 2 := by
    rw [Nat.xor_div_two]; simp
  have e2 : (x.toNat ^^^ 1) % 2 = (x.toNat + 1) % 2 := by
    have := Nat.xor_mod_two_pow (a := x.toNat) (b := 1) (n := 1)
    simp at this
    rw [this]
    rcases Nat.mod_two_eq_zero_or_one x.toNat with h | h
    · rw [h]; show 1 = _; omega
    · rw [h]; show 0 = _; omega
  split <;> omega
end Go.Burg
