/- LockEnds: rows of deeds that the law makes; the words of the closed statement. -/
import Derived.Test.YtofkodfdgbjboaaLE1
namespace Go.Proofs.Ytofkodfdgbjboaa
open Go.ChangeShapes Go.WideShapes Go.ChangeAt Go.RowKit Go.Burg
open Go.Burg.Lk

/-- The cells of deeds. -/
def dcs (D : List LDeed) : List Value := D.flatMap LDeed.cells
theorem dcs_app (A B : List LDeed) : dcs (A ++ B) = dcs A ++ dcs B := by simp [dcs]
theorem dcs_len (D : List LDeed) : (dcs D).length = D.length * 4 := by
  induction D with
  | nil => rfl
  | cons t T ih => simp only [dcs, List.flatMap_cons, List.length_append, LDeed.cells, List.length_cons, List.length_nil] at ih ⊢; omega
theorem dcs_one (D : List LDeed) : ∀ u ∈ dcs D, u.oneCell' = true := by
  intro u hu
  obtain ⟨x, _, hx⟩ := List.mem_flatMap.1 hu
  simp [LDeed.cells] at hx
  rcases hx with rfl | rfl | rfl | rfl <;> rfl
theorem dcs_at : ∀ {D : List LDeed} {n : Nat} {x : LDeed}, D[n]? = some x → (dcs D)[n * 4]? = some (.int .i64 x.what) ∧ (dcs D)[n * 4 + 1]? = some (.int .i64 x.ref.1.1) ∧ (dcs D)[n * 4 + 2]? = some (.int .u32 x.ref.1.2) ∧ (dcs D)[n * 4 + 3]? = some (.int .u64 x.w.1) := by
  intro l
  induction l with
  | nil => intro n t h; simp at h
  | cons a T ih =>
    intro n t h
    cases n with
    | zero => simp at h; subst h; simp [dcs, LDeed.cells]
    | succ n =>
      simp at h
      have := ih h
      simp only [dcs, List.flatMap_cons] at this ⊢
      have hl : (LDeed.cells a).length = 4 := rfl
      rw [List.getElem?_append_right (by omega), List.getElem?_append_right (by omega), List.getElem?_append_right (by omega), List.getElem?_append_right (by omega), hl]
      rw [show (n + 1) * 4 - 4 = n * 4 by omega, show (n + 1) * 4 + 1 - 4 = n * 4 + 1 by omega, show (n + 1) * 4 + 2 - 4 = n * 4 + 2 by omega, show (n + 1) * 4 + 3 - 4 = n * 4 + 3 by omega]
      exact this

theorem deeds_row {w : World} {base g c n : Nat} {D : List LDeed} (h : w.ownsRow base 38 4 (.slice (some ⟨g, 0, none⟩) n c) n (dcs D)) (hD : D.length = n) : DeedsAt w (some ⟨g, 0, none⟩) n (fun i => D.getD i default) := by
  intro _
  refine ⟨g, 0, rfl, (World.ownsRow.lt h g rfl).2, fun i hi => ?_⟩
  obtain ⟨x, hx⟩ : ∃ x, D[i]? = some x := ⟨D[i], by simp [hD, hi]⟩
  have e : D.getD i default = x := by simp [List.getD_eq_getElem?_getD, hx]
  obtain ⟨h0, h1, h2, h3⟩ := dcs_at hx
  simp only [Nat.zero_add]
  rw [e]
  exact ⟨(World.ownsRow.cellAt h _ (by omega)).trans h0, (World.ownsRow.cellAt h _ (by omega)).trans h1, (World.ownsRow.cellAt h _ (by omega)).trans h2, (World.ownsRow.cellAt h _ (by omega)).trans h3⟩

/-- A literal row of deeds. -/
theorem deeds_lit {w : World} {g : Nat} {cs : Array Value} {D : List LDeed} (h : w.heap[g]? = some (.cells cs 38 (0, 0))) (hD : cs.toList = dcs D) : w.ownsRow 0 38 4 (.slice (some ⟨g, 0, none⟩) D.length D.length) D.length (dcs D) ∨ maxLen < D.length := by
  by_cases hm : D.length ≤ maxLen
  · refine .inl ⟨dcs_len D, .inr ⟨g, D.length, cs, rfl, Nat.zero_le _, h, Nat.le_refl _, hm, ?_, ?_⟩⟩
    · have := congrArg List.length hD
      rw [dcs_len] at this
      simpa using this
    · rw [hD, ← dcs_len]
      exact List.take_length
  · exact .inr (by omega)
end Go.Proofs.Ytofkodfdgbjboaa
