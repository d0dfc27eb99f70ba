/- The purse's small functions. -/
import Derived.Test.YtgdmfledhhoedaaRows
import Derived.Test.YtgdmfledhhoedaaBase
namespace Go.Proofs.Ytgdmfledhhoedaa
set_option maxRecDepth 8000
open Go.ChangeShapes Go.WideShapes Go.ChangeAt Go.RowKit Go.Burg

theorem plus_any (a b c d : Int) (w : World) :
    Calls Try.prog 90 #[.agg #[.int .u64 a, .int .u64 b], .agg #[.int .u64 c, .int .u64 d]] w fun e w' => e = .returned (.agg #[.int .u64 (IntKind.u64.wrap (a + c)), .int .u64 (IntKind.u64.wrap (b + d))]) ∧ Below w.heap.size w w' := by
  go_enter Try.func90, Try.ntmps90
  go_wp2
  refine bodyPost_ret (v := .agg #[_, _]) (by simp [results, Try.results90, go_sem]) rfl ⟨rfl, ?_⟩
  (repeat (first | exact Below.refl _ _ | assumption | refine Below.drew ?_ | refine Below.setCell ?_ (by simp) _ | refine Below.alloc ?_ (by first | exact Nat.le_refl _ | (simp; done) | (simp; omega)) _))

theorem minus_any (a b c d : Int) (w : World) :
    Calls Try.prog 95 #[.agg #[.int .u64 a, .int .u64 b], .agg #[.int .u64 c, .int .u64 d]] w fun e w' => e = .returned (.agg #[.int .u64 (IntKind.u64.wrap (a - c)), .int .u64 (IntKind.u64.wrap (b - d))]) ∧ Below w.heap.size w w' := by
  go_enter Try.func95, Try.ntmps95
  go_wp2
  refine bodyPost_ret (v := .agg #[_, _]) (by simp [results, Try.results95, go_sem]) rfl ⟨rfl, ?_⟩
  (repeat (first | exact Below.refl _ _ | assumption | refine Below.drew ?_ | refine Below.setCell ?_ (by simp) _ | refine Below.alloc ?_ (by first | exact Nat.le_refl _ | (simp; done) | (simp; omega)) _))

/-- The lesser of two numbers. -/
def mn (a b : Int) : Int := if a ≤ b then a else b
theorem mn_le {a b : Int} (h : a ≤ b) : mn a b = a := if_pos h
theorem mn_gt {a b : Int} (h : ¬ a ≤ b) : mn a b = b := if_neg h

theorem least_any (a b c d : Int) (w : World) :
    Calls Try.prog 96 #[.agg #[.int .u64 a, .int .u64 b], .agg #[.int .u64 c, .int .u64 d]] w fun e w' => e = .returned (.agg #[.int .u64 (mn a c), .int .u64 (mn b d)]) ∧ Below w.heap.size w w' := by
  by_cases h1 : a ≤ c <;> by_cases h2 : b ≤ d <;> simp only [mn, h1, h2, if_true, if_false]
  all_goals
    go_enter Try.func96, Try.ntmps96
    go_wp2
    refine bodyPost_ret (v := .agg #[_, _]) (by simp [results, Try.results96, go_sem]) rfl ⟨rfl, ?_⟩
    (repeat (first | exact Below.refl _ _ | assumption | refine Below.drew ?_ | refine Below.setCell ?_ (by simp) _ | refine Below.alloc ?_ (by first | exact Nat.le_refl _ | (simp; done) | (simp; omega)) _))

/-- A purse's block. -/
def PBlk (mk mb hk hb kk kb last : Int) (mp : Option Nat) : Obj :=
  .cells #[.int .u64 mk, .int .u64 mb, .int .u64 hk, .int .u64 hb, .int .u64 kk, .int .u64 kb, .map mp, .int .i64 last] 93 (0, 0)

theorem pfacts {w : World} {b : Nat} {mk mb hk hb kk kb last : Int} {mp : Option Nat} (h : w.heap[b]? = some (PBlk mk mb hk hb kk kb last mp)) :
    w.cell? ⟨b, 0, none⟩ = some (.int .u64 mk) ∧ w.cell? ⟨b, 1, none⟩ = some (.int .u64 mb) ∧ w.cell? ⟨b, 2, none⟩ = some (.int .u64 hk) ∧ w.cell? ⟨b, 3, none⟩ = some (.int .u64 hb) ∧
    w.cell? ⟨b, 4, none⟩ = some (.int .u64 kk) ∧ w.cell? ⟨b, 5, none⟩ = some (.int .u64 kb) ∧ w.cell? ⟨b, 6, none⟩ = some (.map mp) ∧ w.cell? ⟨b, 7, none⟩ = some (.int .i64 last) ∧
    (∀ i, w.frozen? ⟨b, i, none⟩ = false) ∧ b < w.heap.size := by
  have hc := cell_of h
  exact ⟨hc 0, hc 1, hc 2, hc 3, hc 4, hc 5, hc 6, hc 7, free_of h, lt_of_block h⟩

theorem blk_below {w w1 : World} {B b : Nat} {o : Obj} (h : w.heap[b]? = some o) (hb : Below B w w1) (hB : b < B) : w1.heap[b]? = some o := (hb.block b hB).trans h
theorem blk_alloc {w : World} {b : Nat} {o o' : Obj} (h : w.heap[b]? = some o) : (w.alloc o').heap[b]? = some o := (Below.heap_alloc _ _ _ (lt_of_block h)).trans h

theorem bound_any (b : Nat) (mk mb hk hb kk kb last : Int) (mp : Option Nat) (w : World) (h : w.heap[b]? = some (PBlk mk mb hk hb kk kb last mp)) :
    Calls Try.prog 97 #[.pointer (some ⟨b, 0, none⟩)] w fun e w' => e = .returned (.agg #[.int .u64 (IntKind.u64.wrap (hk + kk)), .int .u64 (IntKind.u64.wrap (hb + kb))]) ∧ Below w.heap.size w w' := by
  obtain ⟨c0, c1, c2, c3, c4, c5, c6, c7, cf, cl⟩ := pfacts h
  go_enter Try.func97, Try.ntmps97
  go_wp2
  have hA := blk_alloc (o' := (.cells #[.int .u64 0, .int .u64 0] 49)) h
  have hN := heap_new w (.cells #[.int .u64 0, .int .u64 0] 49)
  refine wp_region_exact (F := ?F) 9 (fun w1 => Below ((w.alloc (.cells #[.int .u64 0, .int .u64 0] 49))).heap.size ((w.alloc (.cells #[.int .u64 0, .int .u64 0] 49))) w1) (by kernel_rfl) (by kernel_rfl) ?find ?hF ?hlt ?h0 ?hs ?hend
  case find =>
    dsimp only [List.take]
    go_wp2_with (go_at_call 90; refine (plus_any _ _ _ _ _).mono ?_; rintro e w' ⟨rfl, hb⟩)
    exact rfl
  case hF => kernel_rfl
  case hlt => kernel_rfl
  case h0 => exact ⟨rfl, rfl, rfl, Nat.le_refl _, fun _ _ => rfl⟩
  case hs =>
    dsimp only [List.take, AllOps]
    (repeat' apply And.intro)
    all_goals
      intro w1 hw1
      have h' := blk_below hA hw1 (by simp; omega)
      clear c0 c1 c2 c3 c4 c5 c6 c7 cf
      obtain ⟨c0, c1, c2, c3, c4, c5, c6, c7, cf, cl⟩ := pfacts h'
      go_wp2_with (go_at_call 90; refine (plus_any _ _ _ _ _).mono ?_; rintro e w' ⟨rfl, hb⟩)
    all_goals exact ⟨rfl, by first | assumption | (simpa using below_chain hw1 hb hw1.size)⟩
  case hend =>
    intro w1 hw1
    have hr := blk_below hN hw1 (by simp)
    have r0 := cell_of hr 0
    have r1 := cell_of hr 1
    have rf := free_of hr
    dsimp only [List.drop]
    clear c0 c1 c2 c3 c4 c5 c6 c7 cf
    go_wp2
    refine bodyPost_ret (v := .agg #[_, _]) (by simp [results, Try.results97, go_sem, r0, r1]) rfl ⟨rfl, ?_⟩
    exact (((Below.refl _ _).alloc (Nat.le_refl _) _).trans (hw1.mono (by simp))).setCell (Nat.le_refl _) _ |>.setCell (Nat.le_refl _) _

theorem left_any (b : Nat) (mk mb hk hb kk kb last : Int) (mp : Option Nat) (w : World) (h : w.heap[b]? = some (PBlk mk mb hk hb kk kb last mp)) :
    Calls Try.prog 93 #[.pointer (some ⟨b, 0, none⟩)] w fun e w' => e = .returned (.agg #[.int .u64 (IntKind.u64.wrap (mk - IntKind.u64.wrap (hk + kk))), .int .u64 (IntKind.u64.wrap (mb - IntKind.u64.wrap (hb + kb)))]) ∧ Below w.heap.size w w' := by
  obtain ⟨c0, c1, c2, c3, c4, c5, c6, c7, cf, cl⟩ := pfacts h
  go_enter Try.func93, Try.ntmps93
  go_wp2
  have hA := blk_alloc (o' := (.cells #[.int .u64 0, .int .u64 0] 49)) h
  have hN := heap_new w (.cells #[.int .u64 0, .int .u64 0] 49)
  refine wp_region_exact (F := ?F) 7 (fun w1 => Below ((w.alloc (.cells #[.int .u64 0, .int .u64 0] 49))).heap.size ((w.alloc (.cells #[.int .u64 0, .int .u64 0] 49))) w1) (by kernel_rfl) (by kernel_rfl) ?find ?hF ?hlt ?h0 ?hs ?hend
  case find =>
    dsimp only [List.take]
    go_wp2_with (first | (go_at_call 97; refine (bound_any b mk mb hk hb kk kb last mp _ (by first | exact h' | exact hA)).mono ?_; rintro e w' ⟨rfl, hb⟩) | (go_at_call 95; refine (minus_any _ _ _ _ _).mono ?_; rintro e w' ⟨rfl, hb⟩))
    exact rfl
  case hF => kernel_rfl
  case hlt => kernel_rfl
  case h0 => exact ⟨rfl, rfl, rfl, Nat.le_refl _, fun _ _ => rfl⟩
  case hs =>
    dsimp only [List.take, AllOps]
    (repeat' apply And.intro)
    all_goals
      intro w1 hw1
      have h' := blk_below hA hw1 (by simp; omega)
      clear c0 c1 c2 c3 c4 c5 c6 c7 cf
      obtain ⟨c0, c1, c2, c3, c4, c5, c6, c7, cf, cl⟩ := pfacts h'
      go_wp2_with (first | (go_at_call 97; refine (bound_any b mk mb hk hb kk kb last mp _ (by first | exact h' | exact hA)).mono ?_; rintro e w' ⟨rfl, hb⟩) | (go_at_call 95; refine (minus_any _ _ _ _ _).mono ?_; rintro e w' ⟨rfl, hb⟩))
    all_goals exact ⟨rfl, by first | assumption | (simpa using below_chain hw1 hb hw1.size)⟩
  case hend =>
    intro w1 hw1
    have hr := blk_below hN hw1 (by simp)
    have r0 := cell_of hr 0
    have r1 := cell_of hr 1
    have rf := free_of hr
    dsimp only [List.drop]
    clear c0 c1 c2 c3 c4 c5 c6 c7 cf
    go_wp2
    refine bodyPost_ret (v := .agg #[_, _]) (by simp [results, Try.results93, go_sem, r0, r1]) rfl ⟨rfl, ?_⟩
    exact (((Below.refl _ _).alloc (Nat.le_refl _) _).trans (hw1.mono (by simp))).setCell (Nat.le_refl _) _ |>.setCell (Nat.le_refl _) _
end Go.Proofs.Ytgdmfledhhoedaa
