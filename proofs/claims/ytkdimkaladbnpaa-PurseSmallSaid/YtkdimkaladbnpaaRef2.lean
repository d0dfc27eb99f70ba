/- The reference's Take and Pay. -/
import Derived.Test.YtkdimkaladbnpaaRef1
namespace Go.Proofs.Ytkdimkaladbnpaa
open Go.ChangeShapes Go.WideShapes Go.ChangeAt Go.RowKit Go.Burg
open Go.Burg.Purse
variable {r : RSt} {v : Value}

set_option maxHeartbeats 1000000 in
theorem rtake_any (w : World) (k y : Int) (h : TkAt w v r.T) (hi : RInv r) (hn : r.T.length ≤ 1000) (hk : 0 ≤ k) (hy : 0 ≤ y) :
    Calls Try.prog 33 #[.agg #[.int .u64 r.xk, .int .u64 r.xb, .int .u64 r.hk, .int .u64 r.hb, v], .int .u64 k, .int .u64 y] w fun e w' =>
      e = .returned (.tuple #[.agg #[.int .u64 (r.take k y).1.xk, .int .u64 (r.take k y).1.xb, .int .u64 (r.take k y).1.hk, .int .u64 (r.take k y).1.hb, v], .int .i64 (r.take k y).2]) ∧ Below w.heap.size w w' := by
  obtain ⟨a, cap, rfl, hform⟩ := h.form
  have HT := hid ((h.alloc (.cells #[.int .u64 r.xk, .int .u64 r.xb, .int .u64 r.hk, .int .u64 r.hb, .slice a r.T.length cap] 39)).alloc (.cells #[.int .u64 0, .int .u64 0, .int .u64 0, .int .u64 0, .slice none 0 0] 39))
  have H0 := hid (blk_alloc (o' := (.cells #[.int .u64 0, .int .u64 0, .int .u64 0, .int .u64 0, .slice none 0 0] 39)) (heap_new w (.cells #[.int .u64 r.xk, .int .u64 r.xb, .int .u64 r.hk, .int .u64 r.hb, .slice a r.T.length cap] 39)))
  have h1 : ((w.alloc (.cells #[.int .u64 r.xk, .int .u64 r.xb, .int .u64 r.hk, .int .u64 r.hb, .slice a r.T.length cap] 39)).alloc (.cells #[.int .u64 0, .int .u64 0, .int .u64 0, .int .u64 0, .slice none 0 0] 39)).heap[w.heap.size + 1]? = _ := heap_at (.cells #[.int .u64 0, .int .u64 0, .int .u64 0, .int .u64 0, .slice none 0 0] 39) (by simp)
  have H1 := hid h1
  have HW : Hid (Below w.heap.size w ((w.alloc (.cells #[.int .u64 r.xk, .int .u64 r.xb, .int .u64 r.hk, .int .u64 r.hb, .slice a r.T.length cap] 39)).alloc (.cells #[.int .u64 0, .int .u64 0, .int .u64 0, .int .u64 0, .slice none 0 0] 39))) := hid (((Below.refl _ _).alloc (Nat.le_refl _) _).alloc (by simp) _)
  have HF := hid hform
  clear h1 hform
  have HL := hid (rleft_any _ HT.out hi hn)
  have := okK_pos hi.pos; have := okB_pos hi.pos
  have := hi.hk; have := hi.hb; have := hi.fk; have := hi.fb; have := hi.xk; have := hi.xb
  by_cases hf : r.fits k y
  · have e1 : r.take k y = ({ r with hk := r.hk + k, hb := r.hb + y }, 0) := if_pos hf
    rw [e1]
    have hf' := hf
    obtain ⟨f1, f2⟩ := hf'
    have w1 : IntKind.u64.wrap (r.hk + k) = r.hk + k := wrap_in (by omega) (by omega)
    have w2 : IntKind.u64.wrap (r.hb + y) = r.hb + y := wrap_in (by omega) (by omega)
    have HI := hid (fun (w1 : World) => within_any k y (r.xk - (r.hk + okK r.T)) (r.xb - (r.hb + okB r.T)) true (decide_eq_true hf) w1)
    clear hf f1 f2 e1 h hi
    generalize okK r.T = sk at *
    generalize okB r.T = sb at *
    go_enter Try.func33, Try.ntmps33
    go_wp2_with fail
    refine HL.out.mono ?_
    rintro e w1 ⟨rfl, hB⟩
    go_wp2_with fail
    refine (HI.out _).mono ?_
    rintro e w2 ⟨rfl, hB2⟩
    have hBB := hB.trans (hB2.mono hB.size)
    clear hB hB2
    have hB1 := HW.out.trans (hBB.mono (by simp; omega))
    have k0 := blk_below H0.out hBB (by simp; omega)
    have k1 := blk_below H1.out hBB (by simp)
    have a0 := cell_of k0 0
    have a1 := cell_of k0 1
    have a2 := cell_of k0 2
    have a3 := cell_of k0 3
    have a4 := cell_of k0 4
    have af := free_of k0
    have m0 := cell_of k1 0
    have m1 := cell_of k1 1
    have m2 := cell_of k1 2
    have m3 := cell_of k1 3
    have m4 := cell_of k1 4
    have mf := free_of k1
    have hsz := lt_of_block k1
    have hs0 := lt_of_block k0
    have K0 := hid k0
    have K1 := hid k1
    clear k0 k1
    clear hBB
    go_wp2_with fail
    refine bodyPost_ret (v := .tuple #[.agg #[.int .u64 r.xk, .int .u64 r.xb, .int .u64 (r.hk + k), .int .u64 (r.hb + y), (.slice a r.T.length cap)], .int .i64 0]) (by simp [results, Try.results33, go_sem, m0, m1, m2, m3, m4]) rfl ⟨rfl, by (repeat (first | with_reducible exact hB1 | with_reducible refine Below.setCell ?_ (by first | (simp; done) | (simp; omega)) _ | with_reducible refine Below.alloc ?_ (by first | (simp; done) | (simp; omega)) _ | with_reducible refine Below.drew ?_))⟩
  · have e1 : r.take k y = (r, 10) := if_neg hf
    rw [e1]
    have HI := hid (fun (w1 : World) => within_any k y (r.xk - (r.hk + okK r.T)) (r.xb - (r.hb + okB r.T)) false (decide_eq_false hf) w1)
    clear hf e1 h hi
    generalize okK r.T = sk at *
    generalize okB r.T = sb at *
    go_enter Try.func33, Try.ntmps33
    go_wp2_with fail
    refine HL.out.mono ?_
    rintro e w1 ⟨rfl, hB⟩
    go_wp2_with fail
    refine (HI.out _).mono ?_
    rintro e w2 ⟨rfl, hB2⟩
    have hBB := hB.trans (hB2.mono hB.size)
    clear hB hB2
    have hB1 := HW.out.trans (hBB.mono (by simp; omega))
    have k0 := blk_below H0.out hBB (by simp; omega)
    have k1 := blk_below H1.out hBB (by simp)
    have a0 := cell_of k0 0
    have a1 := cell_of k0 1
    have a2 := cell_of k0 2
    have a3 := cell_of k0 3
    have a4 := cell_of k0 4
    have af := free_of k0
    have m0 := cell_of k1 0
    have m1 := cell_of k1 1
    have m2 := cell_of k1 2
    have m3 := cell_of k1 3
    have m4 := cell_of k1 4
    have mf := free_of k1
    have hsz := lt_of_block k1
    have hs0 := lt_of_block k0
    have K0 := hid k0
    have K1 := hid k1
    clear k0 k1
    clear hBB
    go_wp2_with fail
    refine bodyPost_ret (v := .tuple #[.agg #[.int .u64 r.xk, .int .u64 r.xb, .int .u64 r.hk, .int .u64 r.hb, (.slice a r.T.length cap)], .int .i64 10]) (by simp [results, Try.results33, go_sem, m0, m1, m2, m3, m4]) rfl ⟨rfl, by (repeat (first | with_reducible exact hB1 | with_reducible refine Below.setCell ?_ (by first | (simp; done) | (simp; omega)) _ | with_reducible refine Below.alloc ?_ (by first | (simp; done) | (simp; omega)) _ | with_reducible refine Below.drew ?_))⟩

set_option maxHeartbeats 400000 in
theorem rpay_any (w : World) (k y : Int) (h : TkAt w v r.T) (hi : RInv r) (hk : 0 ≤ k) (hy : 0 ≤ y) :
    Calls Try.prog 34 #[.agg #[.int .u64 r.xk, .int .u64 r.xb, .int .u64 r.hk, .int .u64 r.hb, v], .int .u64 k, .int .u64 y] w fun e w' =>
      e = .returned (.tuple #[.agg #[.int .u64 (r.pay k y).1.xk, .int .u64 (r.pay k y).1.xb, .int .u64 (r.pay k y).1.hk, .int .u64 (r.pay k y).1.hb, v], .int .i64 (r.pay k y).2]) ∧ Below w.heap.size w w' := by
  obtain ⟨a, cap, rfl, hform⟩ := h.form
  have HT := hid ((h.alloc (.cells #[.int .u64 r.xk, .int .u64 r.xb, .int .u64 r.hk, .int .u64 r.hb, .slice a r.T.length cap] 39)).alloc (.cells #[.int .u64 0, .int .u64 0, .int .u64 0, .int .u64 0, .slice none 0 0] 39))
  have H0 := hid (blk_alloc (o' := (.cells #[.int .u64 0, .int .u64 0, .int .u64 0, .int .u64 0, .slice none 0 0] 39)) (heap_new w (.cells #[.int .u64 r.xk, .int .u64 r.xb, .int .u64 r.hk, .int .u64 r.hb, .slice a r.T.length cap] 39)))
  have h1 : ((w.alloc (.cells #[.int .u64 r.xk, .int .u64 r.xb, .int .u64 r.hk, .int .u64 r.hb, .slice a r.T.length cap] 39)).alloc (.cells #[.int .u64 0, .int .u64 0, .int .u64 0, .int .u64 0, .slice none 0 0] 39)).heap[w.heap.size + 1]? = _ := heap_at (.cells #[.int .u64 0, .int .u64 0, .int .u64 0, .int .u64 0, .slice none 0 0] 39) (by simp)
  have H1 := hid h1
  have HW : Hid (Below w.heap.size w ((w.alloc (.cells #[.int .u64 r.xk, .int .u64 r.xb, .int .u64 r.hk, .int .u64 r.hb, .slice a r.T.length cap] 39)).alloc (.cells #[.int .u64 0, .int .u64 0, .int .u64 0, .int .u64 0, .slice none 0 0] 39))) := hid (((Below.refl _ _).alloc (Nat.le_refl _) _).alloc (by simp) _)
  have HF := hid hform
  clear h1 hform
  have := okK_pos hi.pos; have := okB_pos hi.pos
  have := hi.hk; have := hi.hb; have := hi.fk; have := hi.fb; have := hi.xk; have := hi.xb
  by_cases hf : k ≤ r.hk ∧ y ≤ r.hb
  · have e1 : r.pay k y = ({ r with hk := r.hk - k, hb := r.hb - y }, 0) := if_pos hf
    rw [e1]
    have hf' := hf
    obtain ⟨f1, f2⟩ := hf'
    have w1 : IntKind.u64.wrap (r.hk - k) = r.hk - k := wrap_in (by omega) (by omega)
    have w2 : IntKind.u64.wrap (r.hb - y) = r.hb - y := wrap_in (by omega) (by omega)
    have HI := hid (fun (w1 : World) => within_any k y r.hk r.hb true (decide_eq_true hf) w1)
    clear hf f1 f2 e1 h hi
    go_enter Try.func34, Try.ntmps34
    go_wp2_with fail
    refine (HI.out _).mono ?_
    rintro e w2 ⟨rfl, hB2⟩
    have hB1 := HW.out.trans (hB2.mono (by simp; omega))
    have k0 := blk_below H0.out hB2 (by simp; omega)
    have k1 := blk_below H1.out hB2 (by simp)
    have a0 := cell_of k0 0
    have a1 := cell_of k0 1
    have a2 := cell_of k0 2
    have a3 := cell_of k0 3
    have a4 := cell_of k0 4
    have af := free_of k0
    have m0 := cell_of k1 0
    have m1 := cell_of k1 1
    have m2 := cell_of k1 2
    have m3 := cell_of k1 3
    have m4 := cell_of k1 4
    have mf := free_of k1
    have hsz := lt_of_block k1
    have hs0 := lt_of_block k0
    have K0 := hid k0
    have K1 := hid k1
    clear k0 k1
    go_wp2_with fail
    refine bodyPost_ret (v := .tuple #[.agg #[.int .u64 r.xk, .int .u64 r.xb, .int .u64 (r.hk - k), .int .u64 (r.hb - y), (.slice a r.T.length cap)], .int .i64 0]) (by simp [results, Try.results34, go_sem, m0, m1, m2, m3, m4]) rfl ⟨rfl, by (repeat (first | with_reducible exact hB1 | with_reducible refine Below.setCell ?_ (by first | (simp; done) | (simp; omega)) _ | with_reducible refine Below.alloc ?_ (by first | (simp; done) | (simp; omega)) _ | with_reducible refine Below.drew ?_))⟩
  · have e1 : r.pay k y = (r, 10) := if_neg hf
    rw [e1]
    have HI := hid (fun (w1 : World) => within_any k y r.hk r.hb false (decide_eq_false hf) w1)
    clear hf e1 h hi
    go_enter Try.func34, Try.ntmps34
    go_wp2_with fail
    refine (HI.out _).mono ?_
    rintro e w2 ⟨rfl, hB2⟩
    have hB1 := HW.out.trans (hB2.mono (by simp; omega))
    have k0 := blk_below H0.out hB2 (by simp; omega)
    have k1 := blk_below H1.out hB2 (by simp)
    have a0 := cell_of k0 0
    have a1 := cell_of k0 1
    have a2 := cell_of k0 2
    have a3 := cell_of k0 3
    have a4 := cell_of k0 4
    have af := free_of k0
    have m0 := cell_of k1 0
    have m1 := cell_of k1 1
    have m2 := cell_of k1 2
    have m3 := cell_of k1 3
    have m4 := cell_of k1 4
    have mf := free_of k1
    have hsz := lt_of_block k1
    have hs0 := lt_of_block k0
    have K0 := hid k0
    have K1 := hid k1
    clear k0 k1
    go_wp2_with fail
    refine bodyPost_ret (v := .tuple #[.agg #[.int .u64 r.xk, .int .u64 r.xb, .int .u64 r.hk, .int .u64 r.hb, (.slice a r.T.length cap)], .int .i64 10]) (by simp [results, Try.results34, go_sem, m0, m1, m2, m3, m4]) rfl ⟨rfl, by (repeat (first | with_reducible exact hB1 | with_reducible refine Below.setCell ?_ (by first | (simp; done) | (simp; omega)) _ | with_reducible refine Below.alloc ?_ (by first | (simp; done) | (simp; omega)) _ | with_reducible refine Below.drew ?_))⟩

theorem cnt_take {T : List Tk} {i : Nat} {t : Tk} (h : T[i]? = some t) : (T.take (i + 1)).countP Tk.op = (T.take i).countP Tk.op + (if t.op then 1 else 0) := by
  rw [List.take_add_one, h, List.countP_append]
  simp [List.countP_cons]

theorem rOpen_any (w : World) (h : TkAt w v r.T) (hn : r.T.length ≤ 1000) :
    Calls Try.prog 38 #[.agg #[.int .u64 r.xk, .int .u64 r.xb, .int .u64 r.hk, .int .u64 r.hb, v]] w fun e w' => e = .returned (.int .i64 (r.T.countP Tk.op : Nat)) ∧ Below w.heap.size w w' := by
  obtain ⟨a, cap, rfl, hform⟩ := h.form
  have HF := hid hform
  have HT := hid (h.alloc (.cells #[.int .u64 r.xk, .int .u64 r.xb, .int .u64 r.hk, .int .u64 r.hb, .slice a r.T.length cap] 39))
  have a4 := cell_of (heap_new w (.cells #[.int .u64 r.xk, .int .u64 r.xb, .int .u64 r.hk, .int .u64 r.hb, .slice a r.T.length cap] 39)) 4
  clear hform h
  go_enter Try.func38, Try.ntmps38
  go_wp2_with fail
  go_loop [3, 4] (fun nv iv => ∃ i n : Nat, i ≤ r.T.length ∧ iv = .int .i64 i ∧ nv = .int .i64 n ∧ n ≤ i ∧ Hid (n = (r.T.take i).countP Tk.op)) (fun _ iv => r.T.length - (intOf iv).toNat)
  case atStart => exact ⟨0, 0, Nat.zero_le _, rfl, rfl, Nat.le_refl _, by simp [Hid]⟩
  case round =>
    obtain ⟨i, n, hi, rfl, rfl, hni, HN⟩ := hrel
    by_cases hlt : i < r.T.length
    · obtain ⟨t, ht⟩ : ∃ t, r.T[i]? = some t := ⟨r.T[i], by simp [hlt]⟩
      obtain ⟨g, rfl, hg, hc1, hc2⟩ := HF.out (by omega)
      unfold maxLen at hc2
      obtain ⟨_, _, t2⟩ := HT.out.cells ht
      have HC := hid (cnt_take ht)
      have hgw : ¬ w.heap.size = g := by omega
      clear ht
      obtain ⟨tk, ty, top⟩ := t
      simp only at t2
      cases top
      · go_wp2_with fail
        go_round
        case rel => exact ⟨i + 1, n, by omega, by go_num, rfl, by omega, by rw [HC.out, ← HN.out]; simp [Hid]⟩
        case measure => simp [intOf]; omega
      · go_wp2_with fail
        go_round
        case rel => exact ⟨i + 1, n + 1, by omega, by go_num, by go_num, by omega, by rw [HC.out, ← HN.out]; simp [Hid]⟩
        case measure => simp [intOf]; omega
    · obtain rfl : i = r.T.length := by omega
      rw [List.take_length] at HN
      go_wp2_with fail
      go_ret
      exact ⟨by rw [HN.out]; rfl, (Below.refl _ _).alloc (Nat.le_refl _) _⟩
end Go.Proofs.Ytkdimkaladbnpaa
