/- What is no table: of, and what stands on it. -/
import Derived.Test.YtgdmfledhhoedaaT9
namespace Go.Proofs.Ytgdmfledhhoedaa.T
set_option maxRecDepth 8000
open Go.ChangeShapes Go.WideShapes Go.ChangeAt Go.RowKit Go.Burg

/-- No table: nil, or one without a tree. -/
def NoTab (w : World) (q : Option Addr) : Prop := q = none ∨ ∃ x cs, q = some ⟨x, 0, none⟩ ∧ w.heap[x]? = some (.cells cs 42 (0, 0)) ∧ cs[0]? = some (.pointer none)
section
variable {w w' : World} {q : Option Addr}
theorem NoTab.keep (h : NoTab w q) (hb : Below w.heap.size w w') : NoTab w' q := by
  rcases h with h | ⟨x, cs, h1, h2, h3⟩
  · exact .inl h
  · exact .inr ⟨x, cs, h1, blk_below h2 hb (lt_of_block h2), h3⟩
theorem NoTab.alloc (h : NoTab w q) (o : Obj) : NoTab (w.alloc o) q := h.keep ((Below.refl _ _).alloc (Nat.le_refl _) _)
end
theorem there_no (q : Option Addr) (w : World) (h : NoTab w q) : Calls Try.prog 36 #[.pointer q] w fun e w' => e = .returned (.bool false) ∧ w = w' := by
  rcases h with rfl | ⟨x, cs, rfl, hx, h0⟩
  · go_enter Try.func36, Try.ntmps36
    go_wp2
    go_ret
    exact ⟨rfl, rfl⟩
  · have c0 := (cell_of hx 0).trans h0
    have HB : Hid (Calls Try.prog 52 #[.pointer (some ⟨x, 0, none⟩)] w fun e w' => e = .returned (.bool false) ∧ w = w') := hid (by
      go_enter Try.func52, Try.ntmps52
      go_wp2
      go_ret
      exact ⟨rfl, rfl⟩)
    clear hx h0 c0
    go_enter Try.func36, Try.ntmps36
    go_wp2_with (go_at_call 52; refine HB.out.mono ?_; rintro e w2 ⟨rfl, rfl⟩)
    go_ret
    exact ⟨rfl, rfl⟩
theorem of_no (n : Int) (f : Value) (q : Option Addr) (w : World) (h : NoTab w q) : Calls Try.prog 17 #[.pointer q, .int .i64 n, f] w fun e w' => e = .returned (.int .i64 1) ∧ w = w' := by
  have HT := hid (there_no q w h)
  clear h
  go_enter Try.func17, Try.ntmps17
  go_wp2_with (go_at_call 36; refine HT.out.mono ?_; rintro e w2 ⟨rfl, rfl⟩)
  go_ret
  exact ⟨rfl, rfl⟩
theorem create_no (n mk mb : Int) (q : Option Addr) (w : World) (h : NoTab w q) : Calls Try.prog 10 #[.pointer q, .int .i64 n, .agg #[.int .u64 mk, .int .u64 mb]] w fun e w' => e = .returned (.int .i64 1) ∧ Below w.heap.size w w' := by
  have HV := hid h
  clear h
  go_enter Try.func10, Try.ntmps10
  go_wp2_with (go_at_call 17; refine (of_no _ _ _ _ (by repeat (first | exact HV.out | refine NoTab.alloc ?_ _))).mono ?_; rintro e w2 ⟨rfl, rfl⟩)
  go_ret
  exact ⟨rfl, by (repeat (first | exact Below.refl _ _ | assumption | with_reducible refine Below.drew ?_ | with_reducible refine below_drewN ?_ | with_reducible refine Below.setCell ?_ (by first | (simp; done) | (simp; omega)) _ | with_reducible refine Below.alloc ?_ (by first | exact Nat.le_refl _ | (simp; done) | (simp; omega)) _))⟩
theorem remove_no (n : Int) (q : Option Addr) (w : World) (h : NoTab w q) : Calls Try.prog 11 #[.pointer q, .int .i64 n] w fun e w' => e = .returned (.int .i64 1) ∧ Below w.heap.size w w' := by
  have HV := hid h
  have n0 := cell_of (heap_new w (.cells #[.pointer q] 28 (0, 0))) 0
  clear h
  go_enter Try.func11, Try.ntmps11
  go_wp2_with (go_at_call 17; refine (of_no _ _ _ _ (by repeat (first | exact HV.out | refine NoTab.alloc ?_ _))).mono ?_; rintro e w2 ⟨rfl, rfl⟩)
  go_ret
  exact ⟨rfl, by (repeat (first | exact Below.refl _ _ | assumption | with_reducible refine Below.drew ?_ | with_reducible refine below_drewN ?_ | with_reducible refine Below.setCell ?_ (by first | (simp; done) | (simp; omega)) _ | with_reducible refine Below.alloc ?_ (by first | exact Nat.le_refl _ | (simp; done) | (simp; omega)) _))⟩
theorem revoke_no (n : Int) (q : Option Addr) (w : World) (h : NoTab w q) : Calls Try.prog 12 #[.pointer q, .int .i64 n] w fun e w' => e = .returned (.int .i64 1) ∧ Below w.heap.size w w' := by
  have HV := hid h
  clear h
  go_enter Try.func12, Try.ntmps12
  go_wp2_with (go_at_call 17; refine (of_no _ _ _ _ (by repeat (first | exact HV.out | refine NoTab.alloc ?_ _))).mono ?_; rintro e w2 ⟨rfl, rfl⟩)
  go_ret
  exact ⟨rfl, by (repeat (first | exact Below.refl _ _ | assumption | with_reducible refine Below.drew ?_ | with_reducible refine below_drewN ?_ | with_reducible refine Below.setCell ?_ (by first | (simp; done) | (simp; omega)) _ | with_reducible refine Below.alloc ?_ (by first | exact Nat.le_refl _ | (simp; done) | (simp; omega)) _))⟩
theorem issue_no (n r : Int) (q : Option Addr) (w : World) (h : NoTab w q) : Calls Try.prog 5 #[.pointer q, .int .i64 n, .int .u8 r] w fun e w' => e = .returned (.tuple #[.agg #[.int .i64 0, .int .u32 0, .int .u8 0], .int .i64 1]) ∧ Below w.heap.size w w' := by
  have HV := hid h
  have k1 := heap_new w (.cells #[.int .i64 n] 3 (0, 0))
  have k3 := heap_new ((w.alloc (.cells #[.int .i64 n] 3 (0, 0))).alloc (.cells #[.int .u8 r] 24 (0, 0))) (.cells #[.int .i64 0, .int .u32 0, .int .u8 0] 26 (0, 0))
  rw [show ((w.alloc (.cells #[.int .i64 n] 3 (0, 0))).alloc (.cells #[.int .u8 r] 24 (0, 0))).heap.size = w.heap.size + 1 + 1 by simp] at k3
  have j1 := blk_alloc (o' := (.cells #[.int .i64 0, .int .u32 0, .int .u8 0] 26 (0, 0))) (blk_alloc (o' := (.cells #[.int .u8 r] 24 (0, 0))) k1)
  have n0 := cell_of j1 0
  have q0 := cell_of k3 0
  have q1 := cell_of k3 1
  have q2 := cell_of k3 2
  have qf := free_of k3
  have hb0 : Hid (Below w.heap.size w (((w.alloc (.cells #[.int .i64 n] 3 (0, 0))).alloc (.cells #[.int .u8 r] 24 (0, 0))).alloc (.cells #[.int .i64 0, .int .u32 0, .int .u8 0] 26 (0, 0)))) := hid ((((Below.refl _ _).alloc (Nat.le_refl _) _).alloc (by simp) _).alloc (by simp; omega) _)
  clear h k1 k3 j1
  go_enter Try.func5, Try.ntmps5
  go_wp2_with (go_at_call 17; refine (of_no _ _ _ _ (by repeat (first | exact HV.out | refine NoTab.alloc ?_ _))).mono ?_; rintro e w2 ⟨rfl, rfl⟩)
  refine bodyPost_ret (v := .tuple #[.agg #[_, _, _], _]) (by simp [results, Try.results5, go_sem, q0, q1, q2]) rfl ⟨rfl, ?_⟩
  have hB := hb0.out
  (repeat (first | exact Below.refl _ _ | assumption | with_reducible refine Below.drew ?_ | with_reducible refine below_drewN ?_ | with_reducible refine Below.setCell ?_ (by first | (simp; done) | (simp; omega)) _ | with_reducible refine Below.alloc ?_ (by first | exact Nat.le_refl _ | (simp; done) | (simp; omega)) _))
theorem has_no (n : Int) (q : Option Addr) (w : World) (h : NoTab w q) : Calls Try.prog 7 #[.pointer q, .int .i64 n] w fun e w' => e = .returned (.tuple #[.agg #[.int .u64 0, .int .u64 0], .bool false]) ∧ Below w.heap.size w w' := by
  have HV := hid h
  have k := heap_new w (.cells #[.int .u64 0, .int .u64 0] 49 (0, 0))
  have q0 := cell_of k 0
  have q1 := cell_of k 1
  have qf := free_of k
  clear h k
  go_enter Try.func7, Try.ntmps7
  go_wp2_with (go_at_call 17; refine (of_no _ _ _ _ (by repeat (first | exact HV.out | refine NoTab.alloc ?_ _))).mono ?_; rintro e w2 ⟨rfl, rfl⟩)
  refine bodyPost_ret (v := .tuple #[.agg #[_, _], _]) (by simp [results, Try.results7, go_sem, q0, q1]) rfl ⟨rfl, ?_⟩
  (repeat (first | exact Below.refl _ _ | assumption | with_reducible refine Below.drew ?_ | with_reducible refine below_drewN ?_ | with_reducible refine Below.setCell ?_ (by first | (simp; done) | (simp; omega)) _ | with_reducible refine Below.alloc ?_ (by first | exact Nat.le_refl _ | (simp; done) | (simp; omega)) _))
theorem anchor_no (n : Int) (q : Option Addr) (w : World) (h : NoTab w q) : Calls Try.prog 6 #[.pointer q, .int .i64 n] w fun e w' => e = .returned (.tuple #[.agg #[.int .i64 0, .int .u32 0], .bool false]) ∧ Below w.heap.size w w' := by
  have HV := hid h
  have k := heap_new w (.cells #[.int .i64 0, .int .u32 0] 36 (0, 0))
  have q0 := cell_of k 0
  have q1 := cell_of k 1
  have qf := free_of k
  clear h k
  go_enter Try.func6, Try.ntmps6
  go_wp2_with (go_at_call 17; refine (of_no _ _ _ _ (by repeat (first | exact HV.out | refine NoTab.alloc ?_ _))).mono ?_; rintro e w2 ⟨rfl, rfl⟩)
  refine bodyPost_ret (v := .tuple #[.agg #[_, _], _]) (by simp [results, Try.results6, go_sem, q0, q1]) rfl ⟨rfl, ?_⟩
  (repeat (first | exact Below.refl _ _ | assumption | with_reducible refine Below.drew ?_ | with_reducible refine below_drewN ?_ | with_reducible refine Below.setCell ?_ (by first | (simp; done) | (simp; omega)) _ | with_reducible refine Below.alloc ?_ (by first | exact Nat.le_refl _ | (simp; done) | (simp; omega)) _))
theorem good_no (tn gn rt : Int) (q : Option Addr) (w : World) (h : NoTab w q) : Calls Try.prog 13 #[.pointer q, .agg #[.int .i64 tn, .int .u32 gn, .int .u8 rt]] w fun e w' => e = .returned (.bool false) ∧ Below w.heap.size w w' := by
  have HV := hid h
  have hN1 := blk_alloc (o' := (.cells #[.bool false] 4 (0, 0))) (heap_new w (.cells #[.int .i64 tn, .int .u32 gn, .int .u8 rt] 26 (0, 0)))
  have hN2 := heap_new (w.alloc (.cells #[.int .i64 tn, .int .u32 gn, .int .u8 rt] 26 (0, 0))) (.cells #[.bool false] 4 (0, 0))
  rw [show (w.alloc (.cells #[.int .i64 tn, .int .u32 gn, .int .u8 rt] 26 (0, 0))).heap.size = w.heap.size + 1 by simp] at hN2
  have a0 := cell_of hN1 0
  have b0 := cell_of hN2 0
  clear h hN1 hN2
  go_enter Try.func13, Try.ntmps13
  go_wp2_with (go_at_call 17; refine (of_no _ _ _ _ (by repeat (first | exact HV.out | refine NoTab.alloc ?_ _))).mono ?_; rintro e w2 ⟨rfl, rfl⟩)
  go_ret
  exact ⟨rfl, by (repeat (first | exact Below.refl _ _ | assumption | with_reducible refine Below.drew ?_ | with_reducible refine below_drewN ?_ | with_reducible refine Below.setCell ?_ (by first | (simp; done) | (simp; omega)) _ | with_reducible refine Below.alloc ?_ (by first | exact Nat.le_refl _ | (simp; done) | (simp; omega)) _))⟩
theorem may_no (tn gn rt d : Int) (q : Option Addr) (w : World) (h : NoTab w q) : Calls Try.prog 14 #[.pointer q, .agg #[.int .i64 tn, .int .u32 gn, .int .u8 rt], .int .i64 d] w fun e w' => e = .returned (.int .i64 11) ∧ Below w.heap.size w w' := by
  have hN := heap_new w (.cells #[.int .i64 tn, .int .u32 gn, .int .u8 rt] 26 (0, 0))
  have HG := hid (good_no tn gn rt q _ (h.alloc (.cells #[.int .i64 tn, .int .u32 gn, .int .u8 rt] 26 (0, 0))))
  have n0 := cell_of hN 0
  have n1 := cell_of hN 1
  have n2 := cell_of hN 2
  have hb0 : Hid (Below w.heap.size w (w.alloc (.cells #[.int .i64 tn, .int .u32 gn, .int .u8 rt] 26 (0, 0)))) := hid ((Below.refl _ _).alloc (Nat.le_refl _) _)
  clear h hN
  go_enter Try.func14, Try.ntmps14
  go_wp2_with (go_at_call 13; refine HG.out.mono ?_; rintro e w1 ⟨rfl, hB1⟩; have HB1 := hid (below_chain hb0.out hB1 hb0.out.size); clear hB1)
  go_ret
  exact ⟨rfl, HB1.out⟩
theorem gate_no (tn gn rt d : Int) (q : Option Addr) (w : World) : Calls Try.prog 8 #[.pointer q, .agg #[.int .i64 tn, .int .u32 gn, .int .u8 rt], .int .i64 d] w fun e w' => ∃ b, e = .returned (.iface 73 (.pointer (some ⟨b, 0, none⟩))) ∧ w'.heap[b]? = some (.cells #[.pointer q, .int .i64 tn, .int .u32 gn, .int .u8 rt, .int .i64 d, .pointer none, .int .i64 0, .int .u64 0, .int .u64 0] 76 (0, 0)) ∧ w.heap.size ≤ b ∧ Below w.heap.size w w' := by
  go_enter Try.func8, Try.ntmps8
  go_wp2
  go_ret
  refine ⟨w.heap.size + 1, rfl, ?_, by omega, by (repeat (first | exact Below.refl _ _ | assumption | with_reducible refine Below.drew ?_ | with_reducible refine below_drewN ?_ | with_reducible refine Below.setCell ?_ (by first | (simp; done) | (simp; omega)) _ | with_reducible refine Below.alloc ?_ (by first | exact Nat.le_refl _ | (simp; done) | (simp; omega)) _))⟩
  have hk := heap_new (w.alloc (.cells #[.int .i64 tn, .int .u32 gn, .int .u8 rt] 26 (0, 0))) (.cells #[.pointer q, .int .i64 tn, .int .u32 gn, .int .u8 rt, .int .i64 d, .pointer none, .int .i64 0, .int .u64 0, .int .u64 0] 76 (0, 0))
  rw [show (w.alloc (.cells #[.int .i64 tn, .int .u32 gn, .int .u8 rt] 26 (0, 0))).heap.size = w.heap.size + 1 by simp] at hk
  exact hk
theorem grefund_no {gb : Nat} {tn gn rt d : Int} {q : Option Addr} (w : World) (h : w.heap[gb]? = some (.cells #[.pointer q, .int .i64 tn, .int .u32 gn, .int .u8 rt, .int .i64 d, .pointer none, .int .i64 0, .int .u64 0, .int .u64 0] 76 (0, 0))) : Calls Try.prog 99 #[.pointer (some ⟨gb, 0, none⟩)] w fun e w' => e = .returned (.tuple #[]) ∧ w = w' := by
  have c5 := cell_of h 5
  go_enter Try.func99, Try.ntmps99
  go_wp2
  go_end0
  exact ⟨rfl, rfl⟩
theorem gcommit_no {gb : Nat} {tn gn rt d : Int} {q : Option Addr} (w : World) (h : w.heap[gb]? = some (.cells #[.pointer q, .int .i64 tn, .int .u32 gn, .int .u8 rt, .int .i64 d, .pointer none, .int .i64 0, .int .u64 0, .int .u64 0] 76 (0, 0))) : Calls Try.prog 98 #[.pointer (some ⟨gb, 0, none⟩)] w fun e w' => e = .returned (.tuple #[]) ∧ w = w' := by
  have c5 := cell_of h 5
  go_enter Try.func98, Try.ntmps98
  go_wp2
  go_end0
  exact ⟨rfl, rfl⟩
theorem greserve_no {gb : Nat} {tn gn rt d : Int} {q : Option Addr} (k y : Int) (w : World) (h : w.heap[gb]? = some (.cells #[.pointer q, .int .i64 tn, .int .u32 gn, .int .u8 rt, .int .i64 d, .pointer none, .int .i64 0, .int .u64 0, .int .u64 0] 76 (0, 0))) (hv : NoTab w q) :
    Calls Try.prog 100 #[.pointer (some ⟨gb, 0, none⟩), .agg #[.int .i64 k, .int .i64 y]] w fun e w' => e = .returned (.int .i64 11) ∧ Below w.heap.size w w' := by
  have hG := blk_alloc (o' := (.cells #[.int .i64 k, .int .i64 y] 66 (0, 0))) h
  have HR := hid (grefund_no _ hG)
  have hva := hv.alloc (.cells #[.int .i64 k, .int .i64 y] 66 (0, 0))
  have hB : Below w.heap.size w (w.alloc (.cells #[.int .i64 k, .int .i64 y] 66 (0, 0))) := (Below.refl _ _).alloc (Nat.le_refl _) _
  clear h hv
  go_enter Try.func100, Try.ntmps100
  go_wp2_with (go_at_call 99; refine HR.out.mono ?_; rintro e wa ⟨rfl, rfl⟩)
  generalize w.alloc (.cells #[.int .i64 k, .int .i64 y] 66 (0, 0)) = W at *
  have HG := hid hG
  have HB := hid hB
  have HY := hid (fun (w1 : World) (hw1 : Below W.heap.size W w1) => may_no tn gn rt d q w1 (hva.keep hw1))
  clear hG hva hB HR
  refine wp_region_seq 14 (fun w1 => Below (W).heap.size (W) w1) (by kernel_rfl) (by kernel_rfl) (by kernel_rfl) ⟨rfl, rfl, rfl, Nat.le_refl _, fun _ _ => rfl⟩ ?_
  dsimp only [List.take]
  iterate 14
    refine Seq.cons (a' := ?_) ?_ ?_ ?_
    rotate_left
    ·
      intro w1 hw1
      have hG1 := blk_below HG.out hw1 (lt_of_block HG.out)
      have c0 := cell_of hG1 0
      have c1 := cell_of hG1 1
      have c2 := cell_of hG1 2
      have c3 := cell_of hG1 3
      have c4 := cell_of hG1 4
      clear hG1
      go_wp2_with (go_at_call 14; refine (HY.out _ hw1).mono ?_; rintro e w' ⟨rfl, hb⟩)
      refine ⟨?_, by first | assumption | (simpa using below_chain hw1 hb hw1.size)⟩
      exact rfl
    · kernel_rfl
  refine SeqI.nil ?_
  intro _ w1 _ hw1
  dsimp only [List.drop]
  go_wp2
  go_ret
  exact ⟨rfl, HB.out.trans (hw1.mono HB.out.size)⟩
end Go.Proofs.Ytgdmfledhhoedaa.T
