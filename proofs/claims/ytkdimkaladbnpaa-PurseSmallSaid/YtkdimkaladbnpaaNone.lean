/- A purse that does not exist: every method. -/
import Derived.Test.YtkdimkaladbnpaaCopy
namespace Go.Proofs.Ytkdimkaladbnpaa
open Go.ChangeShapes Go.WideShapes Go.ChangeAt Go.RowKit Go.Burg
open Go.Burg.Purse

/-- No purse: nil, or one without its map. -/
def NoP (w : World) (q : Option Addr) : Prop := q = none ∨ ∃ b, q = some ⟨b, 0, none⟩ ∧ w.heap[b]? = some (PBlk 0 0 0 0 0 0 0 none)
section
variable {w w' : World} {q : Option Addr}
theorem NoP.keep (h : NoP w q) (hb : Below w.heap.size w w') : NoP w' q := by
  rcases h with h | ⟨b, h1, h2⟩
  · exact .inl h
  · exact .inr ⟨b, h1, blk_below h2 hb (lt_of_block h2)⟩
theorem NoP.alloc (h : NoP w q) (o : Obj) : NoP (w.alloc o) q := h.keep ((Below.refl _ _).alloc (Nat.le_refl _) _)
theorem none_of (h : NoP w q) : Calls Try.prog 39 #[.pointer q] w fun e w' => e = .returned (.bool true) ∧ w = w' := by
  rcases h with rfl | ⟨b, rfl, h2⟩
  · exact none_nil w
  · exact none_yes b 0 0 0 0 0 0 0 w h2

theorem spend_none (h : NoP w q) (k y : Int) (f g : Value) : Calls Try.prog 25 #[.pointer q, .int .u64 k, .int .u64 y, f, g] w fun e w' => e = .returned (.int .i64 1) ∧ Below w.heap.size w w' := by
  have HN := hid (none_of h)
  clear h
  go_enter Try.func25, Try.ntmps25
  go_wp2_with (go_at_call 39; refine HN.out.mono ?_; rintro e w' ⟨rfl, rfl⟩)
  go_ret
  exact ⟨rfl, Below.refl _ _⟩

theorem take_none (h : NoP w q) (k y : Int) : Calls Try.prog 22 #[.pointer q, .int .u64 k, .int .u64 y] w fun e w' => e = .returned (.int .i64 1) ∧ Below w.heap.size w w' := by
  have HS := hid (fun f g => spend_none (h.alloc (.cells #[.pointer q] 27)) k y f g)
  have n0 := cell_of (heap_new w (.cells #[.pointer q] 27)) 0
  clear h
  go_enter Try.func22, Try.ntmps22
  go_wp2_with (go_at_call 25; refine (HS.out _ _).mono ?_; rintro e w1 ⟨rfl, hb1⟩)
  go_ret
  exact ⟨rfl, ((Below.refl _ _).alloc (Nat.le_refl _) _).trans (hb1.mono (by simp))⟩
theorem pay_none (h : NoP w q) (k y : Int) : Calls Try.prog 23 #[.pointer q, .int .u64 k, .int .u64 y] w fun e w' => e = .returned (.int .i64 1) ∧ Below w.heap.size w w' := by
  have HS := hid (fun f g => spend_none (h.alloc (.cells #[.pointer q] 27)) k y f g)
  have n0 := cell_of (heap_new w (.cells #[.pointer q] 27)) 0
  clear h
  go_enter Try.func23, Try.ntmps23
  go_wp2_with (go_at_call 25; refine (HS.out _ _).mono ?_; rintro e w1 ⟨rfl, hb1⟩)
  go_ret
  exact ⟨rfl, ((Below.refl _ _).alloc (Nat.le_refl _) _).trans (hb1.mono (by simp))⟩
theorem reserve_none (h : NoP w q) (k y : Int) : Calls Try.prog 12 #[.pointer q, .int .u64 k, .int .u64 y] w fun e w' => e = .returned (.tuple #[.int .i64 0, .int .i64 1]) ∧ Below w.heap.size w w' := by
  have HS := hid (fun f g => spend_none ((h.alloc (.cells #[.pointer q] 27)).alloc (.cells #[.int .i64 0] 3)) k y f g)
  have hn := blk_alloc (o' := (.cells #[.int .i64 0] 3)) (heap_new w (.cells #[.pointer q] 27))
  have n0 := cell_of hn 0
  have hD : ((w.alloc (.cells #[.pointer q] 27)).alloc (.cells #[.int .i64 0] 3)).heap[w.heap.size + 1]? = some (.cells #[.int .i64 0] 3) := heap_at _ (by simp)
  have HD := hid hD
  clear h hn hD
  go_enter Try.func12, Try.ntmps12
  go_wp2_with (go_at_call 25; refine (HS.out _ _).mono ?_; rintro e w1 ⟨rfl, hb1⟩; have hd1 := cell_of (blk_below HD.out hb1 (by simp)) 0)
  go_ret2
  exact ⟨rfl, (((Below.refl _ _).alloc (Nat.le_refl _) _).alloc (by simp) _).trans (hb1.mono (by simp; omega))⟩

theorem close_nop (h : NoP w q) (t : Int) : Calls Try.prog 30 #[.pointer q, .int .i64 t] w fun e w' => e = .returned (.tuple #[.agg #[.int .u64 0, .int .u64 0], .int .i64 1]) ∧ Below w.heap.size w w' := by
  have HN := hid (none_of (h.alloc (.cells #[.int .u64 0, .int .u64 0] 24)))
  clear h
  go_enter Try.func30, Try.ntmps30
  go_wp2_with (go_at_call 39; refine HN.out.mono ?_; rintro e w' ⟨rfl, rfl⟩)
  refine bodyPost_ret (v := .tuple #[.agg #[.int .u64 0, .int .u64 0], .int .i64 1]) (by simp [results, Try.results30, go_sem]) rfl ⟨rfl, by (repeat (first | exact Below.refl _ _ | assumption | refine Below.drew ?_ | refine Below.setCell ?_ (by first | (simp; done) | (simp; omega)) _ | refine Below.alloc ?_ (by first | exact Nat.le_refl _ | (simp; done) | (simp; omega)) _))⟩
theorem commit_nop (h : NoP w q) (t : Int) : Calls Try.prog 13 #[.pointer q, .int .i64 t] w fun e w' => e = .returned (.int .i64 1) ∧ Below w.heap.size w w' := by
  have HC := hid (close_nop h t)
  clear h
  go_enter Try.func13, Try.ntmps13
  go_wp2_with (go_at_call 30; refine HC.out.mono ?_; rintro e w1 ⟨rfl, hb1⟩)
  go_ret
  exact ⟨rfl, hb1.alloc hb1.size _⟩
theorem refund_nop (h : NoP w q) (t : Int) : Calls Try.prog 14 #[.pointer q, .int .i64 t] w fun e w' => e = .returned (.int .i64 1) ∧ Below w.heap.size w w' := by
  have HC := hid (close_nop h t)
  clear h
  go_enter Try.func14, Try.ntmps14
  go_wp2_with (go_at_call 30; refine HC.out.mono ?_; rintro e w1 ⟨rfl, hb1⟩)
  go_ret
  exact ⟨rfl, hb1.alloc hb1.size _⟩
theorem has_nop (h : NoP w q) : Calls Try.prog 17 #[.pointer q] w fun e w' => e = .returned (.agg #[.int .u64 0, .int .u64 0]) ∧ Below w.heap.size w w' := by
  have HN := hid (none_of (h.alloc (.cells #[.int .u64 0, .int .u64 0] 24)))
  clear h
  go_enter Try.func17, Try.ntmps17
  go_wp2_with (go_at_call 39; refine HN.out.mono ?_; rintro e w' ⟨rfl, rfl⟩)
  refine bodyPost_ret (v := .agg #[.int .u64 0, .int .u64 0]) (by simp [results, Try.results17, go_sem]) rfl ⟨rfl, by (repeat (first | exact Below.refl _ _ | assumption | refine Below.drew ?_ | refine Below.setCell ?_ (by first | (simp; done) | (simp; omega)) _ | refine Below.alloc ?_ (by first | exact Nat.le_refl _ | (simp; done) | (simp; omega)) _))⟩
theorem bound_nop (h : NoP w q) : Calls Try.prog 18 #[.pointer q] w fun e w' => e = .returned (.agg #[.int .u64 0, .int .u64 0]) ∧ Below w.heap.size w w' := by
  have HN := hid (none_of (h.alloc (.cells #[.int .u64 0, .int .u64 0] 24)))
  clear h
  go_enter Try.func18, Try.ntmps18
  go_wp2_with (go_at_call 39; refine HN.out.mono ?_; rintro e w' ⟨rfl, rfl⟩)
  refine bodyPost_ret (v := .agg #[.int .u64 0, .int .u64 0]) (by simp [results, Try.results18, go_sem]) rfl ⟨rfl, by (repeat (first | exact Below.refl _ _ | assumption | refine Below.drew ?_ | refine Below.setCell ?_ (by first | (simp; done) | (simp; omega)) _ | refine Below.alloc ?_ (by first | exact Nat.le_refl _ | (simp; done) | (simp; omega)) _))⟩
theorem left_nop (h : NoP w q) : Calls Try.prog 20 #[.pointer q] w fun e w' => e = .returned (.agg #[.int .u64 0, .int .u64 0]) ∧ Below w.heap.size w w' := by
  have HN := hid (none_of (h.alloc (.cells #[.int .u64 0, .int .u64 0] 24)))
  clear h
  go_enter Try.func20, Try.ntmps20
  go_wp2_with (go_at_call 39; refine HN.out.mono ?_; rintro e w' ⟨rfl, rfl⟩)
  refine bodyPost_ret (v := .agg #[.int .u64 0, .int .u64 0]) (by simp [results, Try.results20, go_sem]) rfl ⟨rfl, by (repeat (first | exact Below.refl _ _ | assumption | refine Below.drew ?_ | refine Below.setCell ?_ (by first | (simp; done) | (simp; omega)) _ | refine Below.alloc ?_ (by first | exact Nat.le_refl _ | (simp; done) | (simp; omega)) _))⟩
theorem open_nop (h : NoP w q) : Calls Try.prog 19 #[.pointer q] w fun e w' => e = .returned (.int .i64 0) ∧ w = w' := by
  have HN := hid (none_of h)
  clear h
  go_enter Try.func19, Try.ntmps19
  go_wp2_with (go_at_call 39; refine HN.out.mono ?_; rintro e w' ⟨rfl, rfl⟩)
  go_ret
  exact ⟨rfl, rfl⟩
theorem copy_nop (h : NoP w q) : Calls Try.prog 21 #[.pointer q] w fun e w' => e = .returned (.pointer none) ∧ w = w' := by
  have HN := hid (none_of h)
  clear h
  go_enter Try.func21, Try.ntmps21
  go_wp2_with (go_at_call 39; refine HN.out.mono ?_; rintro e w' ⟨rfl, rfl⟩)
  go_ret
  exact ⟨rfl, rfl⟩
end
end Go.Proofs.Ytkdimkaladbnpaa
