/- SlabNever: count. -/
import Derived.Test.YtmgiaedfonaefaaSlabLeast
import Derived.Test.YtmgiaedfonaefaaSlabNeverM
namespace Go.Proofs.Ytmgiaedfonaefaa
open Go.ChangeShapes Go.WideShapes Go.ChangeAt Go.RowKit Go.Burg

theorem cnt_any {base : Nat} {v : Value} (L : List Bool) (w : World) (h : w.ownsRow base 4 1 v L.length (L.map Value.bool)) (hn : L.length ≤ 200) :
    Calls Try.prog 15 #[v] w fun e w' => e = .returned (.int .i64 (L.countP id : Nat)) ∧ w = w' := by
  rcases h.2 with ⟨rfl, h0⟩ | ⟨g, cap, cur, rfl, _⟩
  · obtain rfl : L = [] := List.length_eq_zero_iff.1 h0
    go_enter Try.func15, Try.ntmps15
    go_wp2_with fail
    go_loopw [3, 4] (fun nv iv wr => iv = .int .i64 0 ∧ nv = .int .i64 0 ∧ wr = w) (fun _ _ _ => 0)
    case atStart => exact ⟨rfl, rfl, rfl⟩
    case round =>
      obtain ⟨rfl, rfl, rfl⟩ := hrel
      go_wp2_with fail
      go_ret
      exact ⟨by simp, rfl⟩
  · have hc := h.cellAt
    clear h
    go_enter Try.func15, Try.ntmps15
    go_wp2_with fail
    go_loopw [3, 4] (fun nv iv wr => ∃ k : Nat, k ≤ L.length ∧ iv = .int .i64 k ∧ nv = .int .i64 ((L.take k).countP id : Nat) ∧ wr = w) (fun _ iv _ => L.length - (intOf iv).toNat)
    case atStart => exact ⟨0, Nat.zero_le _, rfl, rfl, rfl⟩
    case round =>
      obtain ⟨k, hk, rfl, rfl, rfl⟩ := hrel
      by_cases hlt : k < L.length
      · have c0 := hc k (by omega)
        rw [List.getElem?_map, List.getElem?_eq_getElem hlt] at c0
        have hT : (L.take (k + 1)).countP id = (L.take k).countP id + (if L[k] = true then 1 else 0) := by
          rw [List.take_add_one, List.getElem?_eq_getElem hlt, List.countP_append]
          simp [List.countP_cons]
        have hcl : (L.take k).countP id ≤ k := Nat.le_trans List.countP_le_length (by simp; omega)
        have HT := hid hT
        clear hT hc
        generalize (L.take k).countP id = n at HT hcl ⊢
        generalize L[k] = x at c0 HT
        cases x
        all_goals
          simp only [Option.map_some] at c0
          go_wp2_with fail
          go_roundw
          case rel => exact ⟨k + 1, by omega, by go_num, by have h1 := HT.out; simp at h1; rw [h1]; try go_num, trivial⟩
          case measure => simp [intOf]; omega
      · obtain rfl : k = L.length := by omega
        go_wp2_with fail
        go_ret
        exact ⟨by simp, rfl⟩
end Go.Proofs.Ytmgiaedfonaefaa
