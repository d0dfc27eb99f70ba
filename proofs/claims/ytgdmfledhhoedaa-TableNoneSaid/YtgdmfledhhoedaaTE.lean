/- The table: Revoke. -/
import Derived.Test.YtgdmfledhhoedaaTD
namespace Go.Burg
open Go Go.RowKit
theorem TabAt.put1 {tt : TypeId} {w : World} {x t n : Nat} {l : Nat → Ten} (h : TabAt tt w x t l) (hn : n < 17) (g : Int) :
    TabAt tt (w.setCell ⟨x, 1 + n * 4, none⟩ (.int .u32 g)) x t (upd l n { l n with gen := g }) := by
  obtain ⟨cs, h1, h2, h3⟩ := h
  have a3 : cs[1 + n * 4 + 3]? = some (.pointer ((l n).purse.map fun b => ⟨b, 0, none⟩)) := h3 n hn 3 (by omega)
  have s3 : 1 + n * 4 + 3 < cs.size := (Array.getElem?_eq_some_iff.1 a3).1
  refine ⟨_, heap_set h1, ?_, fun i hi j hj => ?_⟩
  · rw [set_get, if_neg (by omega)]
    exact h2
  · unfold upd
    by_cases hin : i = n
    · subst hin
      rw [if_pos rfl]
      have h4 := h3 i hi
      rcases (by omega : j = 0 ∨ j = 1 ∨ j = 2 ∨ j = 3) with rfl | rfl | rfl | rfl
      · rw [set_get, if_pos (by omega), if_pos (by omega)]; rfl
      · rw [set_get, if_neg (by omega), h4 1 (by omega)]; rfl
      · rw [set_get, if_neg (by omega), h4 2 (by omega)]; rfl
      · rw [set_get, if_neg (by omega), h4 3 (by omega)]; rfl
    · rw [if_neg hin, ← h3 i hi j hj, set_get, if_neg (by omega)]
end Go.Burg
namespace Go.Proofs.Ytgdmfledhhoedaa.T
set_option maxRecDepth 8000
open Go.ChangeShapes Go.WideShapes Go.ChangeAt Go.RowKit Go.Burg

theorem revoke1_any {x t n : Nat} {l : Nat → Ten} (w : World) (h : TabAt 42 w x t l) (h2 : n ≤ 16) (hg : 0 ≤ (l n).gen ∧ (l n).gen < 4294967295) :
    Calls Try.prog 30 #[.pointer (some ⟨x, 1 + n * 4, none⟩)] w fun e w' => e = .returned (.tuple #[]) ∧ TabAt 42 w' x t (upd l n { l n with gen := (l n).gen + 1 }) ∧ Mod (· = x) w w' := by
  obtain ⟨c0, _, _, _⟩ := h.cell (show n < 17 by omega)
  have cf := h.head.2
  have hwr : IntKind.u32.wrap ((l n).gen + 1) = (l n).gen + 1 := by
    have : IntKind.u32.wrap ((l n).gen + 1) = ((l n).gen + 1) % 4294967296 := rfl
    rw [this]; omega
  have HPUT := hid (h.put1 (show n < 17 by omega) ((l n).gen + 1))
  clear h hg
  go_enter Try.func30, Try.ntmps30
  go_wp2
  go_end0
  exact ⟨rfl, HPUT.out, Mod.setCell (S := (· = x)) (p := ⟨x, 1 + n * 4, none⟩) (Mod.refl _ _) (.inl rfl) _⟩

theorem revoke_at {x t n p : Nat} {l : Nat → Ten} (w : World) (h : TabAt 42 w x t l) (h1 : 1 ≤ n) (h2 : n ≤ 16) (hp : (l n).purse = some p) (hg : 0 ≤ (l n).gen ∧ (l n).gen < 4294967295) :
    Calls Try.prog 12 #[.pointer (some ⟨x, 0, none⟩), .int .i64 n] w fun e w' => e = .returned (.int .i64 0) ∧ TabAt 42 w' x t (upd l n { l n with gen := (l n).gen + 1 }) ∧ Mod (· = x) w w' := by
  have HI := hid (revoke1_any w h h2 hg)
  have HO : Hid (Calls Try.prog 17 #[.pointer (some ⟨x, 0, none⟩), .int .i64 n, .func (.func 30) #[] #[]] w fun e w' => e = .returned (.int .i64 0) ∧ TabAt 42 w' x t (upd l n { l n with gen := (l n).gen + 1 }) ∧ Mod (· = x) w w') := hid (by
    have HT := hid (there_at w h)
    obtain ⟨_, cf⟩ := h.head
    obtain ⟨c0, c1, c2, c3⟩ := h.cell (show n < 17 by omega)
    rw [hp] at c3
    simp only [Option.map_some] at c3
    clear c0 c1 c2 hp
    have g1 : decide ((n : Int) < 1) = false := by simp; omega
    have g2 : decide ((n : Int) > 16) = false := by simp; omega
    go_enter Try.func17, Try.ntmps17
    go_wp2_with (first | (go_at_call 36; refine HT.out.mono ?_; rintro e w2 ⟨rfl, rfl⟩) | (go_at_call 30; refine HI.out.mono ?_; rintro e w2 ⟨rfl, hC, hM⟩))
    go_ret
    exact ⟨rfl, hC, hM⟩)
  clear hp hg HI h
  go_enter Try.func12, Try.ntmps12
  go_wp2_with (go_at_call 17; refine HO.out.mono ?_; rintro e w2 ⟨rfl, hC, hM⟩)
  go_ret
  exact ⟨rfl, hC, hM⟩
end Go.Proofs.Ytgdmfledhhoedaa.T
