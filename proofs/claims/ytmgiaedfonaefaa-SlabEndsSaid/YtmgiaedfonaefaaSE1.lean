/- A slab that does not exist: what every method answers. -/
import Derived.Test.YtmgiaedfonaefaaSDAny
namespace Go.Proofs.Ytmgiaedfonaefaa.Z
open Go.ChangeShapes Go.WideShapes Go.ChangeAt Go.RowKit Go.Burg Go.Shelf
open Go.Proofs.Ytmgiaedfonaefaa.C (KpC encs abides_below Lv)
attribute [local go_sem] Oper.semAt_some

/-- No slab: a nil pointer, or one whose cells are none. -/
def NoSlab (w : World) (p : Value) : Prop := p = .pointer none ∨ ∃ b, p = .pointer (some ⟨b, 0, none⟩) ∧ w.heap[b]? = some (.cells #[.slice none 0 0] 66)
theorem NoSlab.keep {w w' : World} {p : Value} (h : NoSlab w p) (k : Below w.heap.size w w') : NoSlab w' p := by
  rcases h with h | ⟨b, h, hb⟩
  · exact .inl h
  · exact .inr ⟨b, h, blk_below hb k (lt_of_block hb)⟩

theorem there_no {p : Value} (w : World) (h : NoSlab w p) : Calls Try.prog 26 #[p] w fun e w' => e = .returned (.bool false) ∧ w = w' := by
  rcases h with rfl | ⟨b, rfl, hb⟩
  · go_enter Try.func26, Try.ntmps26
    go_wp2
    go_ret
    exact ⟨rfl, rfl⟩
  · have c0 := cell_of hb 0
    go_enter Try.func26, Try.ntmps26
    go_wp2
    go_ret
    exact ⟨rfl, rfl⟩

theorem take_no {p : Value} (x : Int) (w : World) (h : NoSlab w p) : Calls Try.prog 10 #[p, .int .i64 x] w fun e w' => e = .returned (.tuple #[.agg #[.int .i64 0, .int .u32 0], .int .i64 1]) ∧ Below w.heap.size w w' := by
  have hN := heap_new w (.cells #[.int .i64 0, .int .u32 0] 31)
  have n0 := cell_of hN 0
  have n1 := cell_of hN 1
  have nf := free_of hN
  go_enter Try.func10, Try.ntmps10
  go_wp2_with fail
  refine (there_no _ (h.keep ((Below.refl _ _).alloc (Nat.le_refl _) _))).mono ?_
  rintro e w1 ⟨rfl, rfl⟩
  go_wp2
  refine bodyPost_ret (v := .tuple #[.agg #[_, _], _]) (by simp [results, Try.results10, go_sem, n0, n1]) rfl ⟨rfl, ?_⟩
  exact (Below.refl _ _).alloc (Nat.le_refl _) _

theorem turn_no {p f : Value} (slot gen : Int) (w : World) (h : NoSlab w p) : Calls Try.prog 30 #[p, .agg #[.int .i64 slot, .int .u32 gen], f] w fun e w' => e = .returned (.int .i64 1) ∧ Below w.heap.size w w' := by
  go_enter Try.func30, Try.ntmps30
  go_wp2_with fail
  refine (there_no _ (h.keep ((Below.refl _ _).alloc (Nat.le_refl _) _))).mono ?_
  rintro e w1 ⟨rfl, rfl⟩
  go_wp2
  go_ret
  exact ⟨rfl, (Below.refl _ _).alloc (Nat.le_refl _) _⟩

theorem get_no {p : Value} (slot gen : Int) (w : World) (h : NoSlab w p) : Calls Try.prog 13 #[p, .agg #[.int .i64 slot, .int .u32 gen]] w fun e w' => e = .returned (.tuple #[.int .i64 0, .bool false]) ∧ Below w.heap.size w w' := by
  go_enter Try.func13, Try.ntmps13
  go_wp2_with fail
  refine (there_no _ (h.keep ((Below.refl _ _).alloc (Nat.le_refl _) _))).mono ?_
  rintro e w1 ⟨rfl, rfl⟩
  go_wp2
  go_ret2
  exact ⟨rfl, (Below.refl _ _).alloc (Nat.le_refl _) _⟩

theorem free_no {p : Value} (slot gen : Int) (w : World) (h : NoSlab w p) : Calls Try.prog 12 #[p, .agg #[.int .i64 slot, .int .u32 gen]] w fun e w' => e = .returned (.int .i64 1) ∧ Below w.heap.size w w' := by
  have n0 := cell_of (heap_new w (.cells #[.int .i64 slot, .int .u32 gen] 31)) 0
  have n1 := cell_of (heap_new w (.cells #[.int .i64 slot, .int .u32 gen] 31)) 1
  go_enter Try.func12, Try.ntmps12
  go_wp2_with fail
  refine (turn_no slot gen _ (h.keep ((Below.refl _ _).alloc (Nat.le_refl _) _))).mono ?_
  rintro e w1 ⟨rfl, hw1⟩
  go_wp2
  go_ret
  exact ⟨rfl, ((Below.refl _ _).alloc (Nat.le_refl _) _).trans (hw1.mono (by simp))⟩

theorem set_no {p : Value} (slot gen x : Int) (w : World) (h : NoSlab w p) : Calls Try.prog 16 #[p, .agg #[.int .i64 slot, .int .u32 gen], .int .i64 x] w fun e w' => e = .returned (.int .i64 1) ∧ Below w.heap.size w w' := by
  have hmf : ∀ (fn : Fn) (first cap : Array Value) (w : World), (Instr.makeFunc fn first cap).run Try.prog w = .ok (.func fn first cap) w := fun _ _ _ _ => rfl
  have n0 := cell_of (heap_new w (.cells #[.int .i64 slot, .int .u32 gen] 31)) 0
  have n1 := cell_of (heap_new w (.cells #[.int .i64 slot, .int .u32 gen] 31)) 1
  have hB : Below w.heap.size w ((w.alloc (.cells #[.int .i64 slot, .int .u32 gen] 31)).alloc (.cells #[.int .i64 x] 3 (0, 0))) := ((Below.refl _ _).alloc (Nat.le_refl _) _).alloc (by simp) _
  go_enter Try.func16, Try.ntmps16
  go_wp2_with fail
  refine (turn_no slot gen _ (h.keep hB)).mono ?_
  rintro e w1 ⟨rfl, hw1⟩
  go_wp2
  go_ret
  exact ⟨rfl, hB.trans (hw1.mono (by simp; omega))⟩

theorem len_no {p : Value} (w : World) (h : NoSlab w p) : Calls Try.prog 14 #[p] w fun e w' => e = .returned (.int .i64 0) ∧ w = w' := by
  go_enter Try.func14, Try.ntmps14
  go_wp2_with fail
  refine (there_no _ h).mono ?_
  rintro e w1 ⟨rfl, rfl⟩
  go_wp2
  go_ret
  exact ⟨rfl, rfl⟩
theorem left_no {p : Value} (w : World) (h : NoSlab w p) : Calls Try.prog 11 #[p] w fun e w' => e = .returned (.int .i64 0) ∧ w = w' := by
  go_enter Try.func11, Try.ntmps11
  go_wp2_with fail
  refine (there_no _ h).mono ?_
  rintro e w1 ⟨rfl, rfl⟩
  go_wp2
  go_ret
  exact ⟨rfl, rfl⟩
theorem copy_no {p : Value} (w : World) (h : NoSlab w p) : Calls Try.prog 38 #[p] w fun e w' => e = .returned (.pointer none) ∧ w = w' := by
  go_enter Try.func38, Try.ntmps38
  go_wp2_with fail
  refine (there_no _ h).mono ?_
  rintro e w1 ⟨rfl, rfl⟩
  go_wp2
  go_ret
  exact ⟨rfl, rfl⟩

/-- A pointer to a slab, whatever it is. -/
def IsPtr (p : Value) : Prop := ∃ q, p = .pointer q
theorem NoSlab.ptr {w : World} {p : Value} (h : NoSlab w p) : IsPtr p := by
  rcases h with rfl | ⟨b, rfl, _⟩
  · exact ⟨_, rfl⟩
  · exact ⟨_, rfl⟩

theorem all_no {q : Option Addr} (w : World) :
    Calls Try.prog 20 #[.pointer q] w fun e w' => e = .returned (.func (.func 42) #[] #[.pointer (some ⟨w.heap.size, 0, none⟩)]) ∧ w' = w.alloc (.cells #[.pointer q] 23) := by
  have hmf : ∀ (fn : Fn) (first cap : Array Value) (w : World), (Instr.makeFunc fn first cap).run Try.prog w = .ok (.func fn first cap) w := fun _ _ _ _ => rfl
  go_enter Try.func20, Try.ntmps20
  go_wp2_with fail
  go_ret
  exact ⟨rfl, rfl⟩

set_option maxRecDepth 100000 in
set_option maxHeartbeats 2000000 in
theorem all_stops (n B : Nat) {q : Option Addr} (w0 : World) (hB : w0.heap[B]? = some (.cells #[.pointer q] 23)) (hS : NoSlab w0 (.pointer q)) :
    SeqStopsK Fence.wide n Try.prog 42 #[.pointer (some ⟨B, 0, none⟩)] encs (KpC w0.heap.size) (fun xs => xs = []) (fun pre => pre <+: []) 0 w0 := by
  intro L J Jx W hW hJ hJx hY h0
  have hS1 := hS.keep hW
  have b0 := cell_of (blk_below hB hW (lt_of_block hB)) 0
  have HTH := hid (there_no _ hS1)
  clear hY hW hS1
  refine callsIn_of_wp Try.func42 rfl trivial ?_ rfl
  simp only [Try.ntmps42, List.size_toArray, List.length_cons, List.length_nil, Nat.reduceAdd, Nat.reduceSub, Array.replicate_succ, Array.replicate_zero, List.push_toArray, List.append_toArray, List.nil_append, List.cons_append]
  gi_wp2_with fail
  refine ⟨trivial, fun e => (by cases e), ?_⟩
  refine ((callsIn_wide (n := n - 1)).2 HTH.out).mono ?_
  rintro e w1 ⟨rfl, rfl⟩
  gi_wp2_with fail
  refine bodyPost_ret (results_none rfl _ _ _) rfl ?_
  exact ⟨⟨_, rfl⟩, .inl ⟨_, rfl, h0⟩⟩
end Go.Proofs.Ytmgiaedfonaefaa.Z
