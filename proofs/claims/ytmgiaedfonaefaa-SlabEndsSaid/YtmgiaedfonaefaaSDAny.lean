/- SlabDoes: every input. -/
import Derived.Test.YtmgiaedfonaefaaSD2
import Derived.Test.YtmgiaedfonaefaaSlabAwake
import Derived.Test.YtmgiaedfonaefaaSlabDeed
namespace Go.Proofs.Ytmgiaedfonaefaa.C
open Go.ChangeShapes Go.WideShapes Go.ChangeAt Go.RowKit Go.Burg Go.Shelf

theorem new_no (n : Int) (w : World) (h : n < 1 ∨ 4096 < n) :
    Calls Try.prog 8 #[.int .i64 n] w fun e w' => e = .returned (.tuple #[.pointer none, .int .i64 2]) ∧ w = w' := by
  by_cases h1 : n < 1
  · clear h
    go_enter Try.func8, Try.ntmps8
    go_wp2_with fail
    go_ret2
    exact ⟨rfl, rfl⟩
  · have h2 : 4096 < n := by omega
    have h1 : decide (n < 1) = false := by simp; omega
    clear h
    go_enter Try.func8, Try.ntmps8
    go_wp2_with fail
    go_ret2
    exact ⟨rfl, rfl⟩

theorem does_skip (s : Int) (a : Option Addr) (len cap : Nat) (w : World) (h : (200 < s ∧ s ≤ 4096) ∨ 200 < len) :
    Calls Try.prog 5 #[.int .i64 s, .slice a len cap] w fun e w' => e = .returned (.bool true) ∧ Below w.heap.size w w' := by
  by_cases h1 : 200 < s
  · by_cases h2 : s ≤ 4096
    · clear h
      go_enter Try.func5, Try.ntmps5
      go_wp2_with fail
      refine (awake_any _).mono ?_
      rintro e w1 ⟨rfl, hB⟩
      go_wp2
      go_ret
      exact ⟨rfl, hB⟩
    · have h3 : 200 < len := by omega
      have h2' : decide (s ≤ 4096) = false := by simp; omega
      clear h h2
      go_enter Try.func5, Try.ntmps5
      go_wp2_with fail
      refine (awake_any _).mono ?_
      rintro e w1 ⟨rfl, hB⟩
      go_wp2
      go_ret
      exact ⟨rfl, hB⟩
  · have h3 : 200 < len := by omega
    have h1' : decide (200 < s) = false := by simp; omega
    clear h h1
    go_enter Try.func5, Try.ntmps5
    go_wp2_with fail
    refine (awake_any _).mono ?_
    rintro e w1 ⟨rfl, hB⟩
    go_wp2
    go_ret
    exact ⟨rfl, hB⟩

theorem does_none (s : Int) (a : Option Addr) (len cap : Nat) (w : World) (h : s < 1 ∨ 4096 < s) (hl : len ≤ 200) :
    Calls Try.prog 5 #[.int .i64 s, .slice a len cap] w fun e w' => e = .returned (.bool true) ∧ Below w.heap.size w w' := by
  have HH := hid h
  have hl' : decide (200 < (len : Int)) = false := by simp; omega
  by_cases h1 : s < 1
  · have h1' : decide (200 < s) = false := by simp; omega
    clear h h1
    go_enter Try.func5, Try.ntmps5
    go_wp2_with fail
    refine (new_no s _ HH.out).mono ?_
    rintro e w1 ⟨rfl, rfl⟩
    go_wp2_with fail
    refine (R.new_no s _ HH.out).mono ?_
    rintro e w1 ⟨rfl, rfl⟩
    go_wp2_with fail
    refine (awake_any _).mono ?_
    rintro e w1 ⟨rfl, hB⟩
    go_wp2
    go_ret
    exact ⟨rfl, hB⟩
  · have h2 : 4096 < s := by omega
    have h1' : decide (200 < s) = true := by simp; omega
    have h2' : decide (s ≤ 4096) = false := by simp; omega
    clear h h1 h2
    go_enter Try.func5, Try.ntmps5
    go_wp2_with fail
    refine (new_no s _ HH.out).mono ?_
    rintro e w1 ⟨rfl, rfl⟩
    go_wp2_with fail
    refine (R.new_no s _ HH.out).mono ?_
    rintro e w1 ⟨rfl, rfl⟩
    go_wp2_with fail
    refine (awake_any _).mono ?_
    rintro e w1 ⟨rfl, hB⟩
    go_wp2
    go_ret
    exact ⟨rfl, hB⟩

set_option maxRecDepth 100000 in
set_option maxHeartbeats 4000000 in
theorem does_in (s : Nat) (a : Option Addr) (len cap : Nat) (ds : Nat → Deed) (w : World) (hD : DeedsAt5 w a len ds) (hs1 : 1 ≤ s) (hs2 : s ≤ 200) (hl : len ≤ 200) :
    Calls Try.prog 5 #[.int .i64 s, .slice a len cap] w fun e w' => e = .returned (.bool true) ∧ Below w.heap.size w w' := by
  have hl' : decide (200 < (len : Int)) = false := by simp; omega
  have hs' : decide (200 < (s : Int)) = false := by simp; omega
  go_enter Try.func5, Try.ntmps5
  go_wp2_with fail
  refine (I.new_any s _ hs1 (by omega)).mono ?_
  rintro e w1 ⟨b, g, rfl, hb, hg, hS, hB⟩
  have hB1 := hid hB
  have hS1 := hid hS
  have hz1 := hB.size
  clear hB hS
  go_wp2_with fail
  refine (R.new_any s _ hs1 (by omega)).mono ?_
  rintro e w2 ⟨b2, g2, rfl, hb2, hg2, hR, hB⟩
  have HD0 : Hid (DR w b g (List.replicate s (⟨false, 0, 0⟩ : Cel Int)).length b2 g2 (List.replicate s ⟨false, 0, 0⟩) (List.replicate s ⟨false, 0, 0⟩) (.slice none 0 0) [] w2) :=
    hid ⟨(hS1.out.keep hB).toC, hR, World.ownsRow_nil _ _ _ _, (Mod.ofBelow (S := fun i => w.heap.size ≤ i) hB1.out).trans (Mod.ofBelow (S := fun _ => False) hB) (fun _ _ h => h.elim), hb, hg, by omega, by omega⟩
  generalize List.replicate s (⟨false, 0, 0⟩ : Cel Int) = l0 at HD0
  clear hR hB hB1 hS1 hb hg hb2 hg2 hl' hs' hz1
  go_wp2_with fail
  go_loopw [5, 9, 10] (fun sv tv iv wr => ∃ (k b g cp : Nat) (l : List (Cel Int)) (T : List (Int × Int)), k ≤ len ∧ iv = .int .i64 k ∧ sv = .pointer (some ⟨b, 0, none⟩) ∧ T.length ≤ k ∧ DR w b g cp b2 g2 l l tv T wr) (fun _ _ iv _ => len - (intOf iv).toNat)
  case atStart => exact ⟨0, b, g, _, l0, [], Nat.zero_le _, rfl, rfl, Nat.le_refl _, HD0.out⟩
  case round =>
    clear HD0
    obtain ⟨k, b, g, cp, l, T, hk, rfl, rfl, hT, hR⟩ := hrel
    by_cases hlt : k < len
    · obtain ⟨bl, off, ha, hbl, hall⟩ := hD (by omega)
      subst ha
      obtain ⟨d0, d1, d2, d3, d4, _, _⟩ := hall k hlt
      generalize ds k = d at d0 d1 d2 d3 d4
      obtain ⟨what, n, x, slot, gen⟩ := d
      simp only at d0 d1 d2 d3 d4
      have hcell : ∀ j, wr.cell? ⟨bl, j, none⟩ = w.cell? ⟨bl, j, none⟩ := fun j => World.cell?_of_block (w := w) (hR.mod.block bl hbl (by omega))
      have g0 := (hcell _).trans d0
      have g1 := (hcell _).trans d1
      have g2' := (hcell _).trans d2
      have g3 := (hcell _).trans d3
      have g4 := (hcell _).trans d4
      have HR := hid hR
      clear hcell d0 d1 d2 d3 d4 hall hR
      go_wp2_with fail
      refine (does_any what n x slot gen _ HR.out (by omega)).mono ?_
      rintro e w3 ⟨b', g', cp', l', tv', T', rfl, hT', hR'⟩
      have HR' := hid hR'
      clear hR' g0 g1 g2' g3 g4 HR
      go_wp2_with fail
      refine (same_any _ HR'.out.sa HR'.out.ra).mono ?_
      rintro e w4 ⟨rfl, hB⟩
      have HR4 := hid (HR'.out.below hB)
      clear hB HR'
      go_wp2_with fail
      go_roundw
      case rel => exact ⟨k + 1, b', g', cp', l', T', by omega, by go_num, rfl, by omega, HR4.out⟩
      case measure => simp [intOf]; omega
    · have HR := hid hR
      have hkl : ¬ ((k : Int) < (len : Int)) := by omega
      clear hlt hR hD
      go_wp2_with fail
      refine (same_any _ HR.out.sa HR.out.ra).mono ?_
      rintro e w4 ⟨rfl, hB⟩
      have HR4 := hid (HR.out.below hB)
      clear hB HR
      go_wp2_with fail
      refine (awake_any _).mono ?_
      rintro e w5 ⟨rfl, hB⟩
      have HR5 := hid (HR4.out.below hB)
      clear hB HR4
      go_wp2
      go_ret
      exact ⟨by first | rfl | simp, HR5.out.mod.below (Nat.le_refl _) fun i hi hh => by omega⟩

theorem doeslaw_any (s : Int) (a : Option Addr) (len cap : Nat) (ds : Nat → Deed) (w : World) (hD : DeedsAt5 w a len ds) :
    Calls Try.prog 5 #[.int .i64 s, .slice a len cap] w fun e w' => e = .returned (.bool true) ∧ Below w.heap.size w w' := by
  by_cases h1 : (200 < s ∧ s ≤ 4096) ∨ 200 < len
  · exact does_skip s a len cap w h1
  · by_cases h2 : s < 1 ∨ 4096 < s
    · exact does_none s a len cap w h2 (by omega)
    · obtain ⟨n, rfl⟩ : ∃ n : Nat, s = n := ⟨s.toNat, by omega⟩
      exact does_in n a len cap ds w hD (by omega) (by omega) (by omega)
end Go.Proofs.Ytmgiaedfonaefaa.C
