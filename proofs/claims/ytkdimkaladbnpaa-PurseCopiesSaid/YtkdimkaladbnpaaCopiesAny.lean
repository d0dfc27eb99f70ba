/- PurseCopies: every input. -/
import Derived.Test.YtkdimkaladbnpaaCopies
namespace Go.Proofs.Ytkdimkaladbnpaa
open Go.ChangeShapes Go.WideShapes Go.ChangeAt Go.RowKit Go.Burg
open Go.Burg.Purse

set_option maxRecDepth 100000 in
theorem copies_any (lk lb : Int) (a0 : Option Addr) (len0 cap0 : Nat) (ds0 : Nat → Int × Int × Int × Int) (a1 : Option Addr) (len1 cap1 : Nat) (ds1 : Nat → Int × Int × Int × Int) (a2 : Option Addr) (len2 cap2 : Nat) (ds2 : Nat → Int × Int × Int × Int)
    (w : World) (hD2 : DeedsAt w a2 len2 ds2) (hD1 : DeedsAt w a1 len1 ds1) (hD0 : DeedsAt w a0 len0 ds0) (h1 : 0 ≤ lk) (h2 : lk ≤ big) (h3 : 0 ≤ lb) (h4 : lb ≤ big) :
    Calls Try.prog 6 #[.agg #[.int .u64 lk, .int .u64 lb], .slice a0 len0 cap0, .slice a1 len1 cap1, .slice a2 len2 cap2] w fun e w' => e = .returned (.bool true) ∧ Below w.heap.size w w' := by
  by_cases hl0 : len0 ≤ 100
  · by_cases hl1 : len1 ≤ 100
    · by_cases hl2 : len2 ≤ 100
      · exact copies_in lk lb a0 a1 a2 len0 cap0 len1 cap1 len2 cap2 ds0 ds1 ds2 w hD0 hD1 hD2 h1 h2 h3 h4 hl0 hl1 hl2
      · have hl : 100 < len2 := by omega
        clear hD0 hD1 hD2 h1 h2 h3 h4 hl2
        go_enter Try.func6, Try.ntmps6
        go_wp2_with fail
        refine (awake_any _).mono ?_
        rintro e w1 ⟨rfl, hB⟩
        go_wp2_with fail
        go_ret
        exact ⟨rfl, ((Below.refl _ _).alloc (Nat.le_refl _) _).trans (hB.mono (by simp))⟩
    · have hl : 100 < len1 := by omega
      clear hD0 hD1 hD2 h1 h2 h3 h4 hl1
      go_enter Try.func6, Try.ntmps6
      go_wp2_with fail
      refine (awake_any _).mono ?_
      rintro e w1 ⟨rfl, hB⟩
      go_wp2_with fail
      go_ret
      exact ⟨rfl, ((Below.refl _ _).alloc (Nat.le_refl _) _).trans (hB.mono (by simp))⟩
  · have hl : 100 < len0 := by omega
    clear hD0 hD1 hD2 h1 h2 h3 h4 hl0
    go_enter Try.func6, Try.ntmps6
    go_wp2_with fail
    refine (awake_any _).mono ?_
    rintro e w1 ⟨rfl, hB⟩
    go_wp2_with fail
    go_ret
    exact ⟨rfl, ((Below.refl _ _).alloc (Nat.le_refl _) _).trans (hB.mono (by simp))⟩
end Go.Proofs.Ytkdimkaladbnpaa
