/- The table: what is done with a tenant. -/
import Derived.Test.YtgdmfledhhoedaaT3
namespace Go.Proofs.Ytgdmfledhhoedaa.T
set_option maxRecDepth 8000
open Go.ChangeShapes Go.WideShapes Go.ChangeAt Go.RowKit Go.Burg

theorem create1_any (v : Value) (w : World) : Calls Try.prog 25 #[v] w fun e w' => e = .returned (.tuple #[]) ∧ w = w' := by
  go_enter Try.func25, Try.ntmps25
  go_wp2
  go_end0
  exact ⟨rfl, rfl⟩

theorem of_create {x t n p : Nat} {l : Nat → Ten} (w : World) (h : TabAt 42 w x t l) (h1 : 1 ≤ n) (h2 : n ≤ 16) (hp : (l n).purse = some p) :
    Calls Try.prog 17 #[.pointer (some ⟨x, 0, none⟩), .int .i64 n, .func (.func 25) #[] #[]] w fun e w' => e = .returned (.int .i64 0) ∧ w = w' := by
  have HT := hid (there_at w h)
  obtain ⟨_, cf⟩ := h.head
  obtain ⟨c0, c1, c2, c3⟩ := h.cell (show n < 17 by omega)
  rw [hp] at c3
  simp only [Option.map_some] at c3
  clear c0 c1 c2 hp
  have g1 : decide ((n : Int) < 1) = false := by simp; omega
  have g2 : decide ((n : Int) > 16) = false := by simp; omega
  go_enter Try.func17, Try.ntmps17
  go_wp2_with (first | (go_at_call 36; refine HT.out.mono ?_; rintro e w2 ⟨rfl, rfl⟩) | (go_at_call 25; refine (create1_any _ _).mono ?_; rintro e w2 ⟨rfl, rfl⟩))
  go_ret
  exact ⟨rfl, rfl⟩

theorem drew_heap (w : World) : w.drew.heap = w.heap := rfl
theorem set_at {w : World} {b i : Nat} {v : Value} {cs cs' : Array Value} {T : TypeId} {fz : Nat × Nat} (h : w.heap[b]? = some (.cells cs T fz)) (e : cs.setIfInBounds i v = cs') :
    (w.setCell ⟨b, i, none⟩ v).heap[b]? = some (.cells cs' T fz) := by rw [heap_set h, e]
theorem set6 {w : World} {c : Nat} {T : TypeId} {v0 v1 v2 x0 x1 x2 y0 y1 y2 : Value} (h : w.heap[c]? = some (.cells #[v0, v1, v2] T (0, 0))) :
    ((((((w.setCell ⟨c, 0, none⟩ x0).setCell ⟨c, 1, none⟩ x1).setCell ⟨c, 2, none⟩ x2).setCell ⟨c, 0, none⟩ y0).setCell ⟨c, 1, none⟩ y1).setCell ⟨c, 2, none⟩ y2).drew.heap[c]? = some (.cells #[y0, y1, y2] T (0, 0)) := by
  have k0 := set_at (i := 0) (v := x0) (cs' := #[x0, v1, v2]) h rfl
  have k1 := set_at (i := 1) (v := x1) (cs' := #[x0, x1, v2]) k0 rfl
  have k2 := set_at (i := 2) (v := x2) (cs' := #[x0, x1, x2]) k1 rfl
  have k3 := set_at (i := 0) (v := y0) (cs' := #[y0, x1, x2]) k2 rfl
  have k4 := set_at (i := 1) (v := y1) (cs' := #[y0, y1, x2]) k3 rfl
  have k5 := set_at (i := 2) (v := y2) (cs' := #[y0, y1, y2]) k4 rfl
  rw [drew_heap]
  exact k5
set_option maxHeartbeats 2000000 in
/-- What Issue's deed stores. -/
theorem issue1_any {x t n a b c : Nat} {l : Nat → Ten} (w : World) (h : TabAt 42 w x t l) (h2 : n ≤ 16) (N R : Int) (ha : w.heap[a]? = some (.cells #[.int .i64 N] 3 (0, 0))) (hb : w.heap[b]? = some (.cells #[.int .u8 R] 24 (0, 0)))
    (hc : w.heap[c]? = some (.cells #[.int .i64 0, .int .u32 0, .int .u8 0] 26 (0, 0))) :
    Calls Try.prog 18 #[.pointer (some ⟨x, 1 + n * 4, none⟩), .pointer (some ⟨a, 0, none⟩), .pointer (some ⟨b, 0, none⟩), .pointer (some ⟨c, 0, none⟩)] w fun e w' => e = .returned (.tuple #[]) ∧ w'.heap[c]? = some (.cells #[.int .i64 N, .int .u32 (l n).gen, .int .u8 R] 26 (0, 0)) ∧ Mod (· = c) w w' := by
  obtain ⟨c0, _, _, _⟩ := h.cell (show n < 17 by omega)
  have a0 := cell_of ha 0
  have b0 := cell_of hb 0
  have d0 := cell_of hc 0
  have d1 := cell_of hc 1
  have d2 := cell_of hc 2
  have df := free_of hc
  have ne1 : c ≠ a := fun e => by subst e; rw [hc] at ha; simp at ha
  have ne2 : c ≠ b := fun e => by subst e; rw [hc] at hb; simp at hb
  have ne : c ≠ x := fun e => by subst e; have := h.head.1; rw [d0] at this; simp at this
  generalize (l n).gen = gen at c0
  go_enter Try.func18, Try.ntmps18
  go_region
  go_end0
  refine ⟨rfl, ?_, ?_⟩
  · exact set6 hc
  · exact (((((((Mod.refl (· = c) w).setCell (p := ⟨c, 0, none⟩) (.inl rfl) _).setCell (p := ⟨c, 1, none⟩) (.inl rfl) _).setCell (p := ⟨c, 2, none⟩) (.inl rfl) _).setCell (p := ⟨c, 0, none⟩) (.inl rfl) _).setCell (p := ⟨c, 1, none⟩) (.inl rfl) _).setCell (p := ⟨c, 2, none⟩) (.inl rfl) _).drew

theorem of_issue {x t n p a b c : Nat} {l : Nat → Ten} (w : World) (h : TabAt 42 w x t l) (h1 : 1 ≤ n) (h2 : n ≤ 16) (hp : (l n).purse = some p) (N R : Int) (ha : w.heap[a]? = some (.cells #[.int .i64 N] 3 (0, 0))) (hb : w.heap[b]? = some (.cells #[.int .u8 R] 24 (0, 0)))
    (hc : w.heap[c]? = some (.cells #[.int .i64 0, .int .u32 0, .int .u8 0] 26 (0, 0))) :
    Calls Try.prog 17 #[.pointer (some ⟨x, 0, none⟩), .int .i64 n, .func (.func 18) #[] #[.pointer (some ⟨a, 0, none⟩), .pointer (some ⟨b, 0, none⟩), .pointer (some ⟨c, 0, none⟩)]] w fun e w' => e = .returned (.int .i64 0) ∧ w'.heap[c]? = some (.cells #[.int .i64 N, .int .u32 (l n).gen, .int .u8 R] 26 (0, 0)) ∧ Mod (· = c) w w' := by
  have HI := hid (issue1_any w h h2 N R ha hb hc)
  clear ha hb hc
  have HT := hid (there_at w h)
  obtain ⟨_, cf⟩ := h.head
  obtain ⟨c0, c1, c2, c3⟩ := h.cell (show n < 17 by omega)
  rw [hp] at c3
  simp only [Option.map_some] at c3
  clear c0 c1 c2 hp
  have g1 : decide ((n : Int) < 1) = false := by simp; omega
  have g2 : decide ((n : Int) > 16) = false := by simp; omega
  go_enter Try.func17, Try.ntmps17
  go_wp2_with (first | (go_at_call 36; refine HT.out.mono ?_; rintro e w2 ⟨rfl, rfl⟩) | (go_at_call 18; refine HI.out.mono ?_; rintro e w2 ⟨rfl, hC, hM⟩))
  go_ret
  exact ⟨rfl, hC, hM⟩
end Go.Proofs.Ytgdmfledhhoedaa.T
