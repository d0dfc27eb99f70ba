/- The purse's methods Take, Pay, Reserve. -/
import Derived.Test.YtgdmfledhhoedaaPT4
namespace Go.Proofs.Ytgdmfledhhoedaa
set_option maxRecDepth 8000
open Go.ChangeShapes Go.WideShapes Go.ChangeAt Go.RowKit Go.Burg

theorem pay_no (b m : Nat) (mk mb hk hb kk kb last k y rk rb : Int) (w : World) (h : w.heap[b]? = some (PBlk mk mb hk hb kk kb last (some m))) (hrk : hk = rk) (hrb : hb = rb) (hno : ¬ (k ≤ rk ∧ y ≤ rb)) :
    Calls Try.prog 101 #[.pointer (some ⟨b, 0, none⟩), .int .u64 k, .int .u64 y] w fun e w' => e = .returned (.int .i64 10) ∧ Below w.heap.size w w' := by
  have hA := blk_alloc (o' := .cells #[.pointer (some ⟨b, 0, none⟩)] 37) h
  have hN := heap_new w (.cells #[.pointer (some ⟨b, 0, none⟩)] 37)
  have HS := hid (spend_pay_no w.heap.size b m mk mb hk hb kk kb last k y rk rb _ hA hN hrk hrb hno)
  clear hrk hrb hno
  have hl := lt_of_block h
  go_enter Try.func101, Try.ntmps101
  go_wp2_with (go_at_call 91; refine HS.out.mono ?_; rintro e w1 ⟨rfl, hb1⟩)
  go_ret
  exact ⟨rfl, ((Below.refl _ _).alloc (Nat.le_refl _) _).trans (hb1.mono (by simp))⟩

theorem pay_yes (b m : Nat) (mk mb hk hb kk kb last k y rk rb : Int) (w : World) (h : w.heap[b]? = some (PBlk mk mb hk hb kk kb last (some m))) (hrk : hk = rk) (hrb : hb = rb) (h1 : k ≤ rk) (h2 : y ≤ rb) :
    Calls Try.prog 101 #[.pointer (some ⟨b, 0, none⟩), .int .u64 k, .int .u64 y] w fun e w' => e = .returned (.int .i64 0) ∧ w'.heap[b]? = some (PBlk mk mb (IntKind.u64.wrap (hk - k)) (IntKind.u64.wrap (hb - y)) kk kb last (some m)) ∧ Mod (· = b) w w' := by
  have hA := blk_alloc (o' := .cells #[.pointer (some ⟨b, 0, none⟩)] 37) h
  have hN := heap_new w (.cells #[.pointer (some ⟨b, 0, none⟩)] 37)
  have HS := hid (spend_pay_yes w.heap.size b m mk mb hk hb kk kb last k y rk rb _ hA hN hrk hrb h1 h2)
  clear hrk hrb h1 h2
  have hl := lt_of_block h
  go_enter Try.func101, Try.ntmps101
  go_wp2_with (go_at_call 91; refine HS.out.mono ?_; rintro e w1 ⟨rfl, hP, hM⟩)
  go_ret
  exact ⟨rfl, hP, Mod.trans (S := (· = b)) ((Mod.refl _ w).alloc _) hM (fun _ _ h => h)⟩

theorem reserve_no (b m : Nat) (mk mb hk hb kk kb last k y rk rb : Int) (w : World) (h : w.heap[b]? = some (PBlk mk mb hk hb kk kb last (some m))) (hrk : (IntKind.u64.wrap (mk - IntKind.u64.wrap (hk + kk))) = rk) (hrb : (IntKind.u64.wrap (mb - IntKind.u64.wrap (hb + kb))) = rb) (hno : ¬ (k ≤ rk ∧ y ≤ rb)) :
    Calls Try.prog 88 #[.pointer (some ⟨b, 0, none⟩), .int .u64 k, .int .u64 y] w fun e w' => e = .returned (.tuple #[.int .i64 0, .int .i64 10]) ∧ Below w.heap.size w w' := by
  have hA := blk_alloc (o' := .cells #[.int .i64 0] 3) (blk_alloc (o' := .cells #[.pointer (some ⟨b, 0, none⟩)] 37) h)
  have hN := blk_alloc (o' := .cells #[.int .i64 0] 3) (heap_new w (.cells #[.pointer (some ⟨b, 0, none⟩)] 37))
  have hD : ((w.alloc (.cells #[.pointer (some ⟨b, 0, none⟩)] 37)).alloc (.cells #[.int .i64 0] 3)).heap[w.heap.size + 1]? = some (.cells #[.int .i64 0] 3) := by simpa using heap_new (w.alloc (.cells #[.pointer (some ⟨b, 0, none⟩)] 37)) (.cells #[.int .i64 0] 3)
  have HS := hid (spend_reserve_no w.heap.size (w.heap.size + 1) b m mk mb hk hb kk kb last k y rk rb _ hA hN hrk hrb hno)
  have HD := hid hD
  clear hrk hrb hno hD
  have hl := lt_of_block h
  go_enter Try.func88, Try.ntmps88
  go_wp2_with (go_at_call 91; refine HS.out.mono ?_; rintro e w1 ⟨rfl, hb1⟩; have hd1 := cell_of (blk_below HD.out hb1 (by simp)) 0)
  go_ret2
  exact ⟨rfl, (((Below.refl _ _).alloc (Nat.le_refl _) _).alloc (by simp) _).trans (hb1.mono (by simp; omega))⟩

theorem reserve_yes (b m : Nat) (mk mb hk hb kk kb last k y rk rb : Int) (w : World) (h : w.heap[b]? = some (PBlk mk mb hk hb kk kb last (some m))) (hrk : (IntKind.u64.wrap (mk - IntKind.u64.wrap (hk + kk))) = rk) (hrb : (IntKind.u64.wrap (mb - IntKind.u64.wrap (hb + kb))) = rb) (h1 : k ≤ rk) (h2 : y ≤ rb)
    (l : List (Int × Int × Int)) (hm : MapOf (Value.int .i64) lim w m l) (hl0 : 0 ≤ last) (hl1 : last < 4000000000) (hnew : l.lookup (last + 1) = none) :
    Calls Try.prog 88 #[.pointer (some ⟨b, 0, none⟩), .int .u64 k, .int .u64 y] w fun e w' => e = .returned (.tuple #[.int .i64 (last + 1), .int .i64 0]) ∧
      w'.heap[b]? = some (PBlk mk mb hk hb (IntKind.u64.wrap (kk + k)) (IntKind.u64.wrap (kb + y)) (last + 1) (some m)) ∧ MapOf (Value.int .i64) lim w' m (l ++ [(last + 1, k, y)]) ∧ Mod (fun i => i = b ∨ i = m) w w' := by
  have hA := blk_alloc (o' := .cells #[.int .i64 0] 3) (blk_alloc (o' := .cells #[.pointer (some ⟨b, 0, none⟩)] 37) h)
  have hN := blk_alloc (o' := .cells #[.int .i64 0] 3) (heap_new w (.cells #[.pointer (some ⟨b, 0, none⟩)] 37))
  have hD : ((w.alloc (.cells #[.pointer (some ⟨b, 0, none⟩)] 37)).alloc (.cells #[.int .i64 0] 3)).heap[w.heap.size + 1]? = some (.cells #[.int .i64 0] 3) := by simpa using heap_new (w.alloc (.cells #[.pointer (some ⟨b, 0, none⟩)] 37)) (.cells #[.int .i64 0] 3)
  have hl := lt_of_block h
  have hlm := hm.lt
  have HS := hid (spend_reserve_yes w.heap.size (w.heap.size + 1) b m mk mb hk hb kk kb last k y rk rb _ hA hN hrk hrb h1 h2 l hD ((hm.alloc _).alloc _) (by omega) (by omega) (by omega) hl0 hl1 hnew)
  clear hrk hrb h1 h2 hD hnew
  go_enter Try.func88, Try.ntmps88
  go_wp2_with (go_at_call 91; refine HS.out.mono ?_; rintro e w1 ⟨rfl, hP, hPd, hPm, hM⟩; have hd1 := cell_of hPd 0)
  go_ret2
  exact ⟨rfl, hP, hPm, Mod.trans (S := fun i => i = b ∨ i = m) (((Mod.refl _ w).alloc _).alloc _) hM (fun i hi h => by rcases h with h | h | h; exact .inl h; exact absurd h (by omega); exact .inr h)⟩
end Go.Proofs.Ytgdmfledhhoedaa
