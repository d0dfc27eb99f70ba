/- What is no table: Tenants, All. -/
import Derived.Test.YtgdmfledhhoedaaW1
import Derived.RangeFuncNested
import Derived.RangeFuncBound
import Derived.RangeFuncCalls
import Derived.RangeFuncLeaves
import Derived.WalkKit
import Derived.Shelf.Abstract
import Derived.OwnWalkIn
import Derived.TacticsInMore
import Derived.LoopNIn
import Derived.LoopIn
import Derived.Deep.LoopGhost
namespace Go.Burg
open Go Go.RowKit
theorem abides_below {β : Type} {B : Nat} {J : β → World → Prop} (hJ : AbidesFrom B J) {s : β} {A C : World} (h : J s A) (hb : Below A.heap.size A C) : J s C :=
  hJ s A C none h ⟨hb.os, hb.tape, hb.output, hb.size, fun k hk _ => hb.block k hk⟩ (fun r e => by cases e)
theorem kept_cells {A B : World} {row : Option Nat} {base k : Nat} {o : Obj} (hg : A.grownBy B row) (hr : ∀ r, row = some r → base ≤ r ∧ ∃ o : Obj, A.heap[r]? = some o ∧ o.isCells = false) (h : A.heap[k]? = some o) (ho : o.isCells = true) : B.heap[k]? = some o :=
  (hg.block k (lt_of_block h) (fun e => by obtain ⟨_, o2, h2, h3⟩ := hr k e.symm; rw [h] at h2; cases h2; rw [ho] at h3; cases h3)).trans h
end Go.Burg
namespace Go.Proofs.Ytgdmfledhhoedaa.T
set_option maxRecDepth 8000
open Go.ChangeShapes Go.WideShapes Go.ChangeAt Go.RowKit Go.Burg Go.Shelf
attribute [local go_sem] Oper.semAt_some
set_option maxHeartbeats 2000000 in
theorem tenants_no (q : Option Addr) (w : World) (h : NoTab w q) : Calls Try.prog 15 #[.pointer q] w fun e w' => e = .returned (.slice none 0 0) ∧ Below w.heap.size w w' := by
  have HV := hid h
  have hk2 := blk_alloc (o' := (.cells #[.int .i64 1] 3 (0, 0))) (heap_new w (.cells #[.slice none 0 0] 62 (0, 0)))
  have hk3 := heap_new (w.alloc (.cells #[.slice none 0 0] 62 (0, 0))) (.cells #[.int .i64 1] 3 (0, 0))
  rw [show (w.alloc (.cells #[.slice none 0 0] 62 (0, 0))).heap.size = w.heap.size + 1 by simp] at hk3
  have hB : Below w.heap.size w ((w.alloc (.cells #[.slice none 0 0] 62 (0, 0))).alloc (.cells #[.int .i64 1] 3 (0, 0))) := ((Below.refl _ _).alloc (Nat.le_refl _) _).alloc (by simp) _
  have H2 := hid hk2
  have H3 := hid hk3
  have HB := hid hB
  have hmf : ∀ (fn : Fn) (first cap : Array Value) (w : World), (Instr.makeFunc fn first cap).run Try.prog w = .ok (.func fn first cap) w := fun _ _ _ _ => rfl
  clear h hk2 hk3 hB
  go_enter Try.func15, Try.ntmps15
  go_wp2_with fail
  generalize (w.alloc (.cells #[.slice none 0 0] 62 (0, 0))).alloc (.cells #[.int .i64 1] 3 (0, 0)) = W at *
  go_loopg [3] 16 (fun g pv wr => ∃ (k b : Nat), g = 17 - k ∧ 1 ≤ k ∧ k ≤ 17 ∧ pv = .pointer (some ⟨b, 0, none⟩) ∧ wr.heap[b]? = some (.cells #[.int .i64 (k : Int)] 3 (0, 0)) ∧ w.heap.size < b ∧ wr.heap[w.heap.size]? = some (.cells #[.slice none 0 0] 62 (0, 0)) ∧ Below w.heap.size w wr)
  case atStart => exact ⟨1, w.heap.size + 1, by omega, by omega, by omega, rfl, H3.out, by omega, H2.out, HB.out⟩
  case round =>
    clear H2 H3 HB
    obtain ⟨k, b, rfl, hk1, hk, rfl, hkb, hb, hkw, hB⟩ := hrel
    have c0 := cell_of hkb 0
    have HKW := hid hkw
    have HB := hid hB
    have hv : NoTab wr q := HV.out.keep hB
    by_cases hlt : k ≤ 16
    · have hle : decide ((k : Int) ≤ 16) = true := by simp; omega
      have HVR := hid hv
      have hn := heap_new wr (.cells #[.int .i64 (k : Int)] 3 (0, 0))
      have n0 := cell_of hn 0
      have nf := free_of hn
      have HN := hid hn
      clear hkb hkw hB hv hn
      go_wp2_with (go_at_call 17; refine (of_no _ _ _ _ HVR.out).mono ?_; rintro e w2 ⟨rfl, rfl⟩)
      go_roundg (17 - (k + 1))
      case measure => omega
      case rel =>
        have hsz := lt_of_block HKW.out
        refine ⟨k + 1, wr.heap.size, rfl, by omega, by omega, rfl, ?_, by omega, ?_, ?_⟩
        · first | exact heap_new _ _ | (have := heap_set (i := 0) (v := .int .i64 ((k : Int) + 1)) HN.out; simpa using this)
        · first | exact blk_alloc HKW.out | exact (Below.heap_setCell _ _ _ _ (by simp; omega)).trans (blk_alloc HKW.out)
        · first | exact HB.out.alloc HB.out.size _ | exact (HB.out.alloc HB.out.size _).setCell (by simp; omega) _
    · obtain rfl : k = 17 := by omega
      have hle : decide (((17 : Nat) : Int) ≤ 16) = false := by decide
      have q0 := cell_of hkw 0
      have qf := free_of hkw
      clear hkb hkw hB hv
      go_wp2_with fail
      refine bodyPost_ret (v := .slice none 0 0) (by simp [results, Try.results15, go_sem, q0]) rfl ⟨rfl, ?_⟩
      exact HB.out.setCell (Nat.le_refl _) _

theorem all_no (q : Option Addr) (w : World) :
    Calls Try.prog 9 #[.pointer q] w fun e w' => e = .returned (.func (.func 22) #[] #[.pointer (some ⟨w.heap.size, 0, none⟩)]) ∧ w' = w.alloc (.cells #[.pointer q] 28 (0, 0)) := by
  have hmf : ∀ (fn : Fn) (first cap : Array Value) (w : World), (Instr.makeFunc fn first cap).run Try.prog w = .ok (.func fn first cap) w := fun _ _ _ _ => rfl
  go_enter Try.func9, Try.ntmps9
  go_wp2_with fail
  go_ret
  exact ⟨rfl, rfl⟩

set_option maxRecDepth 100000 in
set_option maxHeartbeats 2000000 in
theorem all_stops (n B : Nat) (q : Option Addr) (w0 : World) (hB : w0.heap[B]? = some (.cells #[.pointer q] 28 (0, 0))) (hS : NoTab w0 q) :
    SeqStopsK Fence.wide n Try.prog 22 #[.pointer (some ⟨B, 0, none⟩)] (fun _ : Unit => #[.string ⟨#[]⟩, .string ⟨#[]⟩]) (fun _ _ => True) (fun xs => xs = []) (fun _ => False) 0 w0 := by
  intro L J Jx W hW hJ hJx hY h0
  have hx : ∀ (o : Obj), Below W.heap.size W (W.alloc o) := fun o => (Below.refl _ _).alloc (Nat.le_refl _) _
  have hS1 : ∀ o : Obj, NoTab (W.alloc o) q := fun o => (hS.keep hW).alloc o
  have hb := blk_below hB hW (lt_of_block hB)
  have b0 : ∀ o : Obj, (W.alloc o).cell? ⟨B, 0, none⟩ = some (.pointer q) := fun o => cell_of (blk_alloc (o' := o) hb) 0
  have HTH := hid (fun o => tenants_no q _ (hS1 o))
  have HJ0 := hid (fun o => abides_below hJ h0 (hx o))
  have b0 := b0 (.cells #[.func (.yield L) #[] #[]] 77 (0, 0))
  clear hY hW hS1 hb hx
  refine callsIn_of_wp Try.func22 rfl trivial ?_ rfl
  simp only [Try.ntmps22, List.size_toArray, List.length_cons, List.length_nil, Nat.reduceAdd, Nat.reduceSub, Array.replicate_succ, Array.replicate_zero, List.push_toArray, List.append_toArray, List.nil_append, List.cons_append]
  gi_wp2_with fail
  refine ⟨trivial, fun e => (by cases e), ?_⟩
  refine ((callsIn_wide (n := n - 1)).2 (HTH.out _)).mono ?_
  rintro e w1 ⟨rfl, hb1⟩
  have HJ1 := hid (abides_below hJ (HJ0.out _) hb1)
  clear hb1 b0
  gi_wp2_with fail
  gi_loopw [12] (fun iv wr => iv = .int .i64 0 ∧ wr = w1) (fun _ _ => 0)
  case atStart => exact ⟨rfl, rfl⟩
  case round =>
    obtain ⟨rfl, rfl⟩ := hrel
    gi_wp2_with fail
    go_end0
    exact ⟨⟨_, rfl⟩, .inl ⟨_, rfl, HJ1.out⟩⟩

theorem tabNew_nil (w : World) : Calls Try.prog 4 #[.pointer none] w fun e w' => e = .returned (.tuple #[.pointer none, .int .i64 1]) ∧ w = w' := by
  go_enter Try.func4, Try.ntmps4
  go_wp2
  go_ret2
  exact ⟨rfl, rfl⟩
end Go.Proofs.Ytgdmfledhhoedaa.T
