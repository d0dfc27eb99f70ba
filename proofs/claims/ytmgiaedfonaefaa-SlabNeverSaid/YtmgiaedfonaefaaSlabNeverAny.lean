/- SlabNever: every input. -/
import Derived.Test.YtmgiaedfonaefaaSlabNever
import Derived.Test.YtmgiaedfonaefaaSlabDeed
namespace Go.Proofs.Ytmgiaedfonaefaa
open Go.ChangeShapes Go.WideShapes Go.ChangeAt Go.RowKit Go.Burg

set_option maxRecDepth 100000 in
theorem never_out (s : Int) (a : Option Addr) (len cap : Nat) (w : World) (h : s < 1 ∨ 200 < s ∨ 200 < len) :
    Calls Try.prog 4 #[.int .i64 s, .slice a len cap] w fun e w' => e = .returned (.bool true) ∧ Below w.heap.size w w' := by
  go_enter Try.func4, Try.ntmps4
  by_cases h1 : s < 1
  · clear h
    go_wp2_with fail
    refine (awake_any _).mono ?_
    rintro e w1 ⟨rfl, hB⟩
    go_wp2
    go_ret
    exact ⟨rfl, hB⟩
  · by_cases h2 : 200 < s
    · clear h
      go_wp2_with fail
      refine (awake_any _).mono ?_
      rintro e w1 ⟨rfl, hB⟩
      go_wp2
      go_ret
      exact ⟨rfl, hB⟩
    · have h3 : 200 < len := by omega
      clear h
      go_wp2_with fail
      refine (awake_any _).mono ?_
      rintro e w1 ⟨rfl, hB⟩
      go_wp2
      go_ret
      exact ⟨rfl, hB⟩

theorem never_any (s : Int) (a : Option Addr) (len cap : Nat) (ds : Nat → Deed) (w : World) (hD : DeedsAt5 w a len ds) :
    Calls Try.prog 4 #[.int .i64 s, .slice a len cap] w fun e w' => e = .returned (.bool true) ∧ Below w.heap.size w w' := by
  by_cases h : s < 1 ∨ 200 < s ∨ 200 < len
  · exact never_out s a len cap w h
  · obtain ⟨n, rfl⟩ : ∃ n : Nat, s = n := ⟨s.toNat, by omega⟩
    refine never_in n a len cap (fun i => ((ds i).what, (ds i).n, (ds i).x)) w (fun hl => ?_) (by omega) (by omega) (by omega)
    obtain ⟨bl, off, h1, h2, h3⟩ := hD hl
    exact ⟨bl, off, h1, h2, fun i hi => ⟨(h3 i hi).1, (h3 i hi).2.1, (h3 i hi).2.2.1⟩⟩
end Go.Proofs.Ytmgiaedfonaefaa
