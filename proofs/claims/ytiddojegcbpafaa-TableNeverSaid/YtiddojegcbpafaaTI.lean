/- The tree: Fell of an anchor without kids. -/
--DEV
import Derived.Test.YtiddojegcbpafaaTG
import Derived.Test.YtiddojegcbpafaaTGn
import Derived.Test.YtiddojegcbpafaaTH
--END
namespace Go.Burg
open Go Go.RowKit
theorem abides_below {β : Type} {B : Nat} {J : β → World → Prop} (hJ : AbidesFrom B J) {s : β} {A C : World} (h : J s A) (hb : Below A.heap.size A C) : J s C :=
  hJ s A C none h ⟨hb.os, hb.tape, hb.output, hb.size, fun k hk _ => hb.block k hk⟩ (fun r e => by cases e)
end Go.Burg
namespace Go.Proofs.Ytiddojegcbpafaa.T
set_option maxRecDepth 8000
open Go.ChangeShapes Go.WideShapes Go.ChangeAt Go.RowKit Go.Burg
open Go.Burg.Lk
section
variable {P : Program} {ops : Array Oper} {o : Oper} {a : Act}
/-- A field of a value, its run being told. -/
theorem wpList_field_run {rest : List Oper} {Q : Exit → Act → World → Prop} {w : World} (hg : o.guard = none) (x : Operand) (T : TypeId) (i : Nat) (hop : o.op = .field T x i) (v v' : Value)
    (hx : a.eval x = v) (hrun : (Instr.field T v i).run P w = .ok v' w) (hK : wpList P ops Q rest (a.put o.dst v') w) : wpList P ops Q (o :: rest) a w := by
  refine wpList_plain hg fun K' hK' => ?_
  unfold Oper.wp
  simp [execOp, hop, hx, hrun, Result.andThen]
  exact hK' _ _ hK
end
--STATE
set_option maxRecDepth 100000 in
set_option maxHeartbeats 4000000 in
theorem below_stops (n A : Nat) {t sb sg kb km i : Nat} {l : List (Cel Nd)} {L : List (RefK × Wd)} {c : Cel Nd} (slot gen : Int) (w0 : World) (hA : w0.heap[A]? = some (.cells #[.pointer (some ⟨t, 0, none⟩)] 24 (0, 0))) (hA1 : w0.heap[A + 1]? = some (.cells #[.int .i64 slot, .int .u32 gen] 72 (0, 0))) (h : TreeAt w0 t sb sg kb km l L) (hL : S.Live l slot gen i c) (hk : c.x.kids.n = 0) :
    SeqStopsK Fence.wide n Try.prog 46 #[.pointer (some ⟨A, 0, none⟩), .pointer (some ⟨A + 1, 0, none⟩)] (fun _ : Unit => #[.agg #[.int .i64 slot, .int .u32 gen]]) (fun _ _ => True) (fun xs => xs = [()]) (fun pre => pre = [()]) 1 w0 := by
  intro LL J Jx W hW hJ hJx hY h0
  have hb1 := blk_below hA hW (lt_of_block hA)
  have hb2 := blk_below hA1 hW (lt_of_block hA1)
  have hS := h.keep hW
  have HA := hid (blk_alloc (o' := (.cells #[.func (.yield LL) #[] #[]] 114 (0, 0))) hb1)
  have HA1 := hid (blk_alloc (o' := (.cells #[.func (.yield LL) #[] #[]] 114 (0, 0))) hb2)
  have HX := hid (heap_new W (.cells #[.func (.yield LL) #[] #[]] 114 (0, 0)))
  have hT := hS.alloc (.cells #[.func (.yield LL) #[] #[]] 114 (0, 0))
  have hBW : Below W.heap.size W (W.alloc (.cells #[.func (.yield LL) #[] #[]] 114 (0, 0))) := (Below.refl _ _).alloc (Nat.le_refl _) _
  have HY := hid hY
  have hlx : A ≠ W.heap.size ∧ A + 1 ≠ W.heap.size := by have := lt_of_block hb1; have := lt_of_block hb2; omega
  obtain ⟨is, ⟨kn, cd, vl, pt, ⟨ya, yn, yc⟩, ⟨za, zn, zc⟩, pl, di⟩, gn⟩ := c
  simp only at hk
  subst hk
  have HJ0 := hid (abides_below hJ h0 hBW)
  clear hA hA1 h hW hb1 hb2 hS hY h0
  refine callsIn_of_wp Try.func46 rfl trivial ?_ rfl
  simp only [Try.ntmps46, List.size_toArray, List.length_cons, List.length_nil, Nat.reduceAdd, Nat.reduceSub, Array.replicate_succ, Array.replicate_zero, List.push_toArray, List.append_toArray, List.nil_append, List.cons_append]
  gi_wp2_with fail
  generalize hWb : W.alloc (.cells #[.func (.yield LL) #[] #[]] 114 (0, 0)) = Wb at *
  generalize hU : W.heap.size = U at *
  have HT := hid (fun (w1 : World) (hw1 : Below Wb.heap.size Wb w1) => node_at slot gen w1 (hT.keep hw1) hL)
  have HBW := hid hBW
  clear hWb hT hL hBW
  refine wpIn_wide.2 ?_
  refine wp_region_seq 8 (fun w1 => Below (Wb).heap.size (Wb) w1) (by kernel_rfl) (by kernel_rfl) (by kernel_rfl) ⟨rfl, rfl, rfl, Nat.le_refl _, fun _ _ => rfl⟩ ?_
  dsimp only [List.take]
  iterate 5
    refine Seq.cons (a' := ?_) ?_ ?_ ?_
    rotate_left
    ·
      intro w1 hw1
      have a0 := cell_of (blk_below HA.out hw1 (lt_of_block HA.out)) 0; have a1 := cell_of (blk_below HA1.out hw1 (lt_of_block HA1.out)) 0; have a2 := cell_of (blk_below HA1.out hw1 (lt_of_block HA1.out)) 1
      go_wp2_with (go_at_call 47; refine (HT.out _ hw1).mono ?_; rintro e w' ⟨rfl, hb⟩)
      refine ⟨?_, by first | assumption | (simpa using below_chain hw1 hb hw1.size)⟩
      exact rfl
    · kernel_rfl
  refine Seq.cons (a' := ?_) ?_ ?_ ?_
  rotate_left
  ·
    intro w1 hw1
    have a0 := cell_of (blk_below HA.out hw1 (lt_of_block HA.out)) 0; have a1 := cell_of (blk_below HA1.out hw1 (lt_of_block HA1.out)) 0; have a2 := cell_of (blk_below HA1.out hw1 (lt_of_block HA1.out)) 1
    refine wpList_field_run rfl (.tmp 11) 99 5 rfl _ (.slice za 0 zc) rfl rfl ?_
    go_wp2_with fail
    refine ⟨?_, by first | assumption | (simpa using below_chain hw1 hb hw1.size)⟩
    exact rfl
  · kernel_rfl
  iterate 2
    refine Seq.cons (a' := ?_) ?_ ?_ ?_
    rotate_left
    ·
      intro w1 hw1
      have a0 := cell_of (blk_below HA.out hw1 (lt_of_block HA.out)) 0; have a1 := cell_of (blk_below HA1.out hw1 (lt_of_block HA1.out)) 0; have a2 := cell_of (blk_below HA1.out hw1 (lt_of_block HA1.out)) 1
      go_wp2_with (go_at_call 47; refine (HT.out _ hw1).mono ?_; rintro e w' ⟨rfl, hb⟩)
      refine ⟨?_, by first | assumption | (simpa using below_chain hw1 hb hw1.size)⟩
      exact rfl
    · kernel_rfl
  refine SeqI.nil ?_
  intro _ w1 _ hw1
  dsimp only [List.drop]
  have HJ1 := hid (abides_below hJ HJ0.out hw1)
  have k1 := blk_below HA1.out hw1 (lt_of_block HA1.out)
  have kx := blk_below HX.out hw1 (lt_of_block HX.out)
  have a1 := cell_of k1 0
  have a2 := cell_of k1 1
  have x0 := cell_of kx 0
  clear hw1 k1 kx HJ0 HA HA1 HX HT
  go_wp2_with fail
  gi_wp2_with fail
  gi_loopw [14] (fun iv wr => iv = .int .i64 0 ∧ wr = w1) (fun _ _ => 0)
  case atStart => exact ⟨rfl, rfl⟩
  case round =>
    obtain ⟨rfl, rfl⟩ := hrel
    obtain ⟨fn, tmps, assign, body, hy, hR⟩ := HY.out [] () _ HJ1.out (by simp)
    have HRR := hid hR
    clear hR
    gi_wp2_with fail
    refine ⟨fun e => (by cases e), ?_⟩
    refine HRR.out.mono ?_
    rintro e W3 (⟨rfl, hJ3, _⟩ | ⟨rfl, hJ3⟩)
    all_goals
      have HJ3 := hid hJ3
      clear hJ3 HRR HJ1
      gi_wp2_with fail
      go_end0
    · exact ⟨⟨_, rfl⟩, .inl ⟨_, rfl, HJ3.out⟩⟩
    · exact ⟨⟨_, rfl⟩, .inr ⟨_, rfl, HJ3.out⟩⟩
end Go.Proofs.Ytiddojegcbpafaa.T
