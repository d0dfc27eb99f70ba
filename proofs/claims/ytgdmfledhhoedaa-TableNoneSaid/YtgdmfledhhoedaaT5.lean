/- The table: Has, Good, Revoke, of their closures. -/
import Derived.Test.YtgdmfledhhoedaaT4
import Derived.Test.YtgdmfledhhoedaaPT7
namespace Go.Proofs.Ytgdmfledhhoedaa.T
set_option maxRecDepth 8000
open Go.ChangeShapes Go.WideShapes Go.ChangeAt Go.RowKit Go.Burg
open Go.Burg.Purse (St Inv)

theorem has1_any {x t n p m c : Nat} {l : Nat → Ten} {s : St} (w : World) (h : TabAt 42 w x t l) (h2 : n ≤ 16) (hp : (l n).purse = some p) (hP : PurseAt w p m s) {u v : Int} (hc : w.heap[c]? = some (.cells #[.int .u64 u, .int .u64 v] 49 (0, 0))) :
    Calls Try.prog 20 #[.pointer (some ⟨x, 1 + n * 4, none⟩), .pointer (some ⟨c, 0, none⟩)] w fun e w' => e = .returned (.tuple #[]) ∧ w'.heap[c]? = some (.cells #[.int .u64 s.hk, .int .u64 s.hb] 49 (0, 0)) ∧ Mod (· = c) w w' := by
  obtain ⟨_, _, _, c3⟩ := h.cell (show n < 17 by omega)
  rw [hp] at c3
  simp only [Option.map_some] at c3
  have HP := hid (has_at hP)
  have HC := hid hc
  clear hP hp hc
  go_enter Try.func20, Try.ntmps20
  go_wp2_with (go_at_call 21; refine HP.out.mono ?_; rintro e w2 ⟨rfl, hB⟩; have hk := blk_below HC.out hB (lt_of_block HC.out); have k0 := cell_of hk 0; have k1 := cell_of hk 1; have kf := free_of hk)
  go_end0
  exact ⟨rfl, set_at (set_at (cs' := #[.int .u64 s.hk, .int .u64 v]) hk rfl) rfl, Mod.setCell (S := (· = c)) (p := ⟨c, 1, none⟩) (Mod.setCell (S := (· = c)) (p := ⟨c, 0, none⟩) (Mod.ofBelow hB) (.inl rfl) _) (.inl rfl) _⟩

theorem of_has {x t n p m c : Nat} {l : Nat → Ten} {s : St} (w : World) (h : TabAt 42 w x t l) (h1 : 1 ≤ n) (h2 : n ≤ 16) (hp : (l n).purse = some p) (hP : PurseAt w p m s) {u v : Int} (hc : w.heap[c]? = some (.cells #[.int .u64 u, .int .u64 v] 49 (0, 0))) :
    Calls Try.prog 17 #[.pointer (some ⟨x, 0, none⟩), .int .i64 n, .func (.func 20) #[] #[.pointer (some ⟨c, 0, none⟩)]] w fun e w' => e = .returned (.int .i64 0) ∧ w'.heap[c]? = some (.cells #[.int .u64 s.hk, .int .u64 s.hb] 49 (0, 0)) ∧ Mod (· = c) w w' := by
  have HI := hid (has1_any w h h2 hp hP hc)
  clear hc hP
  have HT := hid (there_at w h)
  obtain ⟨_, cf⟩ := h.head
  obtain ⟨c0, c1, c2, c3⟩ := h.cell (show n < 17 by omega)
  rw [hp] at c3
  simp only [Option.map_some] at c3
  clear c0 c1 c2 hp
  have g1 : decide ((n : Int) < 1) = false := by simp; omega
  have g2 : decide ((n : Int) > 16) = false := by simp; omega
  go_enter Try.func17, Try.ntmps17
  go_wp2_with (first | (go_at_call 36; refine HT.out.mono ?_; rintro e w2 ⟨rfl, rfl⟩) | (go_at_call 20; refine HI.out.mono ?_; rintro e w2 ⟨rfl, hC, hM⟩))
  go_ret
  exact ⟨rfl, hC, hM⟩

theorem below_of {w w' : World} {o : Obj} (hM : Mod (· = w.heap.size) (w.alloc o) w') : Below w.heap.size w w' := by
  have h0 : Below w.heap.size w (w.alloc o) := (Below.refl _ _).alloc (Nat.le_refl _) _
  exact h0.trans ⟨hM.os, hM.tape, hM.output, hM.size, fun k hk => hM.block k (by simp; omega) (by omega)⟩
/-- Has: the balance. -/
theorem tHas_at {x t n p m : Nat} {l : Nat → Ten} {s : St} (w : World) (h : TabAt 42 w x t l) (h1 : 1 ≤ n) (h2 : n ≤ 16) (hp : (l n).purse = some p) (hP : PurseAt w p m s) :
    Calls Try.prog 7 #[.pointer (some ⟨x, 0, none⟩), .int .i64 n] w fun e w' => e = .returned (.tuple #[.agg #[.int .u64 s.hk, .int .u64 s.hb], .bool true]) ∧ Below w.heap.size w w' := by
  have hA := h.alloc (.cells #[.int .u64 0, .int .u64 0] 49)
  have hPA := hP.alloc (.cells #[.int .u64 0, .int .u64 0] 49)
  have hN := heap_new w (.cells #[.int .u64 0, .int .u64 0] 49)
  have HI := hid (of_has _ hA h1 h2 hp hPA hN)
  clear hA hPA hN hp
  go_enter Try.func7, Try.ntmps7
  go_wp2_with (go_at_call 17; refine HI.out.mono ?_; rintro e w2 ⟨rfl, hC, hM⟩; have k0 := cell_of hC 0; have k1 := cell_of hC 1; have kf := free_of hC)
  refine bodyPost_ret (v := .tuple #[.agg #[_, _], _]) (by simp [results, Try.results7, go_sem, k0, k1]) rfl ⟨rfl, ?_⟩
  have hB : Below w.heap.size w w2 := below_of hM
  exact (hB.setCell (Nat.le_refl _) _).setCell (Nat.le_refl _) _
end Go.Proofs.Ytgdmfledhhoedaa.T
