/- The law's 'looks': everything derived agrees. -/
import Derived.Test.YtkdimkaladbnpaaDoes2
namespace Go.Proofs.Ytkdimkaladbnpaa
open Go.ChangeShapes Go.WideShapes Go.ChangeAt Go.RowKit Go.Burg
open Go.Burg.Purse

section
variable {w : World} {b m : Nat} {s : St} {r : RSt}
theorem has_go (h : PurseAt w b m s) (hg : Goes s r) : Calls Try.prog 17 #[.pointer (some ⟨b, 0, none⟩)] w fun e w' => e = .returned (.agg #[.int .u64 r.hk, .int .u64 r.hb]) ∧ Below w.heap.size w w' := by
  have := has_at h
  rwa [hg.hk, hg.hb] at this
theorem bound_go (h : PurseAt w b m s) (hi : Inv s) (hg : Goes s r) : Calls Try.prog 18 #[.pointer (some ⟨b, 0, none⟩)] w fun e w' => e = .returned (.agg #[.int .u64 (r.hk + okK r.T), .int .u64 (r.hb + okB r.T)]) ∧ Below w.heap.size w w' := by
  have := bound_at h hi
  rwa [hg.hk, hg.hb, hg.kk, hg.kb] at this
theorem left_go (h : PurseAt w b m s) (hi : Inv s) (hg : Goes s r) : Calls Try.prog 20 #[.pointer (some ⟨b, 0, none⟩)] w fun e w' => e = .returned (.agg #[.int .u64 (r.xk - (r.hk + okK r.T)), .int .u64 (r.xb - (r.hb + okB r.T))]) ∧ Below w.heap.size w w' := by
  have := left_at h hi
  rwa [hg.hk, hg.hb, hg.kk, hg.kb, hg.xk, hg.xb] at this
theorem open_go (h : PurseAt w b m s) (hg : Goes s r) : Calls Try.prog 19 #[.pointer (some ⟨b, 0, none⟩)] w fun e w' => e = .returned (.int .i64 (r.T.countP Tk.op : Nat)) ∧ w = w' := by
  have := open_at h
  rwa [hg.cnt] at this
end

set_option maxHeartbeats 1000000 in
theorem looks_at {w : World} {b m : Nat} {s : St} {r : RSt} {v : Value} (hP : PurseAt w b m s) (hi : Inv s) (hg : Goes s r) (hT : TkAt w v r.T) (hn : r.T.length ≤ 999) :
    Calls Try.prog 16 #[.pointer (some ⟨b, 0, none⟩), .agg #[.int .u64 r.xk, .int .u64 r.xb, .int .u64 r.hk, .int .u64 r.hb, v]] w fun e w' => e = .returned (.bool true) ∧ Below w.heap.size w w' := by
  obtain ⟨a, cap, rfl, _⟩ := hT.form
  have hA := hP.alloc (.cells #[.int .u64 r.xk, .int .u64 r.xb, .int .u64 r.hk, .int .u64 r.hb, .slice a r.T.length cap] 39)
  have hT2 := hT.alloc (.cells #[.int .u64 r.xk, .int .u64 r.xb, .int .u64 r.hk, .int .u64 r.hb, .slice a r.T.length cap] 39)
  have h0 := heap_new w (.cells #[.int .u64 r.xk, .int .u64 r.xb, .int .u64 r.hk, .int .u64 r.hb, .slice a r.T.length cap] 39)
  have hB : Below w.heap.size w (w.alloc (.cells #[.int .u64 r.xk, .int .u64 r.xb, .int .u64 r.hk, .int .u64 r.hb, .slice a r.T.length cap] 39)) := (Below.refl _ _).alloc (Nat.le_refl _) _
  have hri := hg.inv hi
  have HA := hid hA
  have HT := hid hT2
  have H0 := hid h0
  have HB := hid hB
  have HC1 := hid (fun (w1 : World) (h : PurseAt w1 b m s) => has_go h hg)
  have HC2 := hid (fun (w1 : World) (h : PurseAt w1 b m s) => bound_go h hi hg)
  have HC3 := hid (fun (w1 : World) (h : PurseAt w1 b m s) => left_go h hi hg)
  have HC4 := hid (fun (w1 : World) (h : PurseAt w1 b m s) => open_go h hg)
  have HC5 := hid (fun (w1 : World) (h : TkAt w1 (.slice a r.T.length cap) r.T) => rbound_any w1 h hri (by omega))
  have HC6 := hid (fun (w1 : World) (h : TkAt w1 (.slice a r.T.length cap) r.T) => rleft_any w1 h hri (by omega))
  have HC7 := hid (fun (w1 : World) (h : TkAt w1 (.slice a r.T.length cap) r.T) => rOpen_any w1 h (by omega))
  clear hA hT2 h0 hB hri hP hi hg hT
  go_enter Try.func16, Try.ntmps16
  go_wp2_with fail
  have hsz : w.heap.size < (w.alloc (.cells #[.int .u64 r.xk, .int .u64 r.xb, .int .u64 r.hk, .int .u64 r.hb, .slice a r.T.length cap] 39)).heap.size := by simp
  generalize w.alloc (.cells #[.int .u64 r.xk, .int .u64 r.xb, .int .u64 r.hk, .int .u64 r.hb, .slice a r.T.length cap] 39) = W at *
  generalize r.hk + okK r.T = q1 at *
  generalize r.hb + okB r.T = q2 at *
  generalize r.xk - q1 = q3 at *
  generalize r.xb - q2 = q4 at *
  generalize r.T.countP Tk.op = q5 at *
  refine wp_region_seq 27 (fun w1 => Below (W).heap.size (W) w1) (by kernel_rfl) (by kernel_rfl) (by kernel_rfl) ⟨rfl, rfl, rfl, Nat.le_refl _, fun _ _ => rfl⟩ ?_
  dsimp only [List.take]
  iterate 27
    refine Seq.cons (a' := ?_) ?_ ?_ ?_
    rotate_left
    ·
      intro w1 hw1
      have hPd := HA.out.keep hw1
      have hTd := HT.out.keep hw1
      have k0 := blk_below H0.out hw1 hsz
      have a0 := cell_of k0 0
      have a1 := cell_of k0 1
      have a2 := cell_of k0 2
      have a3 := cell_of k0 3
      have a4 := cell_of k0 4
      clear k0
      go_wp2_with (first | (go_at_call 17; refine (HC1.out _ hPd).mono ?_; rintro e w' ⟨rfl, hb⟩) | (go_at_call 18; refine (HC2.out _ hPd).mono ?_; rintro e w' ⟨rfl, hb⟩) | (go_at_call 20; refine (HC3.out _ hPd).mono ?_; rintro e w' ⟨rfl, hb⟩) | (go_at_call 19; refine (HC4.out _ hPd).mono ?_; rintro e w' ⟨rfl, rfl⟩) | (go_at_call 36; refine (HC5.out _ hTd).mono ?_; rintro e w' ⟨rfl, hb⟩) | (go_at_call 37; refine (HC6.out _ hTd).mono ?_; rintro e w' ⟨rfl, hb⟩) | (go_at_call 38; refine (HC7.out _ hTd).mono ?_; rintro e w' ⟨rfl, hb⟩))
      refine ⟨?_, by first | assumption | (simpa using below_chain hw1 hb hw1.size)⟩
      exact rfl
    · kernel_rfl
  refine SeqI.nil ?_
  intro _ w1 _ hw1
  dsimp only [List.drop]
  go_wp2_with fail
  go_ret
  exact ⟨rfl, HB.out.trans (hw1.mono HB.out.size)⟩
end Go.Proofs.Ytkdimkaladbnpaa
