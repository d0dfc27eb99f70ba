/- The purse's spending: Take, Pay and Reserve. -/
import Derived.Test.YtgdmfledhhoedaaPT3
import Derived.Test.YtgdmfledhhoedaaSeq
namespace Go.Proofs.Ytgdmfledhhoedaa
set_option maxRecDepth 8000
open Go.ChangeShapes Go.WideShapes Go.ChangeAt Go.RowKit Go.Burg

theorem least_fit (a b c d : Int) (w : World) (h1 : a ≤ c) (h2 : b ≤ d) :
    Calls Try.prog 96 #[.agg #[.int .u64 a, .int .u64 b], .agg #[.int .u64 c, .int .u64 d]] w fun e w' => e = .returned (.agg #[.int .u64 a, .int .u64 b]) ∧ Below w.heap.size w w' := by
  have := least_any a b c d w
  rwa [mn_le h1, mn_le h2] at this
theorem least_no1 (a b c d : Int) (w : World) (h1 : c < a) :
    Calls Try.prog 96 #[.agg #[.int .u64 a, .int .u64 b], .agg #[.int .u64 c, .int .u64 d]] w fun e w' => e = .returned (.agg #[.int .u64 c, .int .u64 (mn b d)]) ∧ Below w.heap.size w w' := by
  have := least_any a b c d w
  rwa [mn_gt (by omega)] at this
theorem least_no2 (a b c d : Int) (w : World) (h1 : a ≤ c) (h2 : d < b) :
    Calls Try.prog 96 #[.agg #[.int .u64 a, .int .u64 b], .agg #[.int .u64 c, .int .u64 d]] w fun e w' => e = .returned (.agg #[.int .u64 a, .int .u64 d]) ∧ Below w.heap.size w w' := by
  have := least_any a b c d w
  rwa [mn_le h1, mn_gt (by omega)] at this

theorem pay_room (c b m : Nat) (mk mb hk hb kk kb last rk rb : Int) (hrk : hk = rk) (hrb : hb = rb) (w : World) (h : w.heap[b]? = some (PBlk mk mb hk hb kk kb last (some m))) (hc : w.heap[c]? = some (.cells #[.pointer (some ⟨b, 0, none⟩)] 37)) :
    Calls Try.prog 104 #[.pointer (some ⟨c, 0, none⟩)] w fun e w' => e = .returned (.agg #[.int .u64 rk, .int .u64 rb]) ∧ Below w.heap.size w w' := by
  subst hrk hrb
  exact pay1_any c b m mk mb hk hb kk kb last w h hc

theorem spend_pay_no (c : Nat) (b m : Nat) (mk mb hk hb kk kb last k y rk rb : Int) (w : World) (h : w.heap[b]? = some (PBlk mk mb hk hb kk kb last (some m))) (hc : w.heap[c]? = some (.cells #[.pointer (some ⟨b, 0, none⟩)] 37)) (hrk : hk = rk) (hrb : hb = rb) (hno : ¬ (k ≤ rk ∧ y ≤ rb)) :
    Calls Try.prog 91 #[.pointer (some ⟨b, 0, none⟩), .int .u64 k, .int .u64 y, .func (.func 104) #[] #[.pointer (some ⟨c, 0, none⟩)], .func (.func 105) #[] #[.pointer (some ⟨c, 0, none⟩)]] w fun e w' => e = .returned (.int .i64 10) ∧ Below w.heap.size w w' := by
  have HR := hid (fun (w : World) => pay_room c b m mk mb hk hb kk kb last rk rb hrk hrb w)
  clear hrk hrb
  by_cases h1 : k ≤ rk
  · have h2 : rb < y := by have : ¬ y ≤ rb := fun h => hno ⟨h1, h⟩
                           omega
    have q1 : (rb == y) = false := by simp; omega
    clear hno
    have hA := blk_alloc (o' := (.cells #[.int .u64 k, .int .u64 y] 49)) h
    have hcA := blk_alloc (o' := (.cells #[.int .u64 k, .int .u64 y] 49)) hc
    have hN := heap_new w (.cells #[.int .u64 k, .int .u64 y] 49)
    have hcl := lt_of_block hc
    have cl := lt_of_block h
    go_enter Try.func91, Try.ntmps91
    go_wp2_with (first | (go_at_call 37; refine (none_no b m mk mb hk hb kk kb last _ h).mono ?_; rintro e w' ⟨rfl, rfl⟩))
    refine wp_region_seq 6 (fun w1 => Below ((w.alloc (.cells #[.int .u64 k, .int .u64 y] 49))).heap.size ((w.alloc (.cells #[.int .u64 k, .int .u64 y] 49))) w1) (by kernel_rfl) (by kernel_rfl) (by kernel_rfl) ⟨rfl, rfl, rfl, Nat.le_refl _, fun _ _ => rfl⟩ ?_
    dsimp only [List.take]
    iterate 6
      refine Seq.cons (a' := ?_) ?_ ?_ ?_
      rotate_left
      ·
        intro w1 hw1
        have h' := blk_below hA hw1 (by simp; omega)
        have hc' := blk_below hcA hw1 (by simp; omega)
        have hN' := blk_below hN hw1 (by simp)
        have n0 := cell_of hN' 0
        have n1 := cell_of hN' 1
        go_wp2_with (first | (go_at_call 104; refine (HR.out _ h' hc').mono ?_; rintro e w' ⟨rfl, hb⟩) | (go_at_call 96; refine (least_no2 _ _ _ _ _ h1 h2).mono ?_; rintro e w' ⟨rfl, hb⟩))
        refine ⟨?_, by first | assumption | (simpa using below_chain hw1 hb hw1.size)⟩
        exact rfl
      · kernel_rfl
    refine SeqI.nil ?_
    intro _ w1 _ hw1
    dsimp only [List.drop]
    go_wp2
    go_ret
    exact ⟨rfl, ((Below.refl _ _).alloc (Nat.le_refl _) _).trans (hw1.mono (by simp))⟩
  · have h1' : rk < k := by omega
    have q1 : (rk == k) = false := by simp; omega
    clear hno h1
    have hA := blk_alloc (o' := (.cells #[.int .u64 k, .int .u64 y] 49)) h
    have hcA := blk_alloc (o' := (.cells #[.int .u64 k, .int .u64 y] 49)) hc
    have hN := heap_new w (.cells #[.int .u64 k, .int .u64 y] 49)
    have hcl := lt_of_block hc
    have cl := lt_of_block h
    go_enter Try.func91, Try.ntmps91
    go_wp2_with (first | (go_at_call 37; refine (none_no b m mk mb hk hb kk kb last _ h).mono ?_; rintro e w' ⟨rfl, rfl⟩))
    refine wp_region_seq 6 (fun w1 => Below ((w.alloc (.cells #[.int .u64 k, .int .u64 y] 49))).heap.size ((w.alloc (.cells #[.int .u64 k, .int .u64 y] 49))) w1) (by kernel_rfl) (by kernel_rfl) (by kernel_rfl) ⟨rfl, rfl, rfl, Nat.le_refl _, fun _ _ => rfl⟩ ?_
    dsimp only [List.take]
    iterate 6
      refine Seq.cons (a' := ?_) ?_ ?_ ?_
      rotate_left
      ·
        intro w1 hw1
        have h' := blk_below hA hw1 (by simp; omega)
        have hc' := blk_below hcA hw1 (by simp; omega)
        have hN' := blk_below hN hw1 (by simp)
        have n0 := cell_of hN' 0
        have n1 := cell_of hN' 1
        go_wp2_with (first | (go_at_call 104; refine (HR.out _ h' hc').mono ?_; rintro e w' ⟨rfl, hb⟩) | (go_at_call 96; refine (least_no1 _ _ _ _ _ h1').mono ?_; rintro e w' ⟨rfl, hb⟩))
        refine ⟨?_, by first | assumption | (simpa using below_chain hw1 hb hw1.size)⟩
        exact rfl
      · kernel_rfl
    refine SeqI.nil ?_
    intro _ w1 _ hw1
    dsimp only [List.drop]
    go_wp2
    go_ret
    exact ⟨rfl, ((Below.refl _ _).alloc (Nat.le_refl _) _).trans (hw1.mono (by simp))⟩

theorem spend_pay_yes (c : Nat) (b m : Nat) (mk mb hk hb kk kb last k y rk rb : Int) (w : World) (h : w.heap[b]? = some (PBlk mk mb hk hb kk kb last (some m))) (hc : w.heap[c]? = some (.cells #[.pointer (some ⟨b, 0, none⟩)] 37)) (hrk : hk = rk) (hrb : hb = rb) (h1 : k ≤ rk) (h2 : y ≤ rb) :
    Calls Try.prog 91 #[.pointer (some ⟨b, 0, none⟩), .int .u64 k, .int .u64 y, .func (.func 104) #[] #[.pointer (some ⟨c, 0, none⟩)], .func (.func 105) #[] #[.pointer (some ⟨c, 0, none⟩)]] w fun e w' => e = .returned (.int .i64 0) ∧ w'.heap[b]? = some (PBlk mk mb (IntKind.u64.wrap (hk - k)) (IntKind.u64.wrap (hb - y)) kk kb last (some m)) ∧ Mod (· = b) w w' := by
  have HR := hid (fun (w : World) => pay_room c b m mk mb hk hb kk kb last rk rb hrk hrb w)
  clear hrk hrb
  have hA := blk_alloc (o' := (.cells #[.int .u64 k, .int .u64 y] 49)) h
  have hcA := blk_alloc (o' := (.cells #[.int .u64 k, .int .u64 y] 49)) hc
  have hN := heap_new w (.cells #[.int .u64 k, .int .u64 y] 49)
  have hcl := lt_of_block hc
  have cl := lt_of_block h
  go_enter Try.func91, Try.ntmps91
  go_wp2_with (first | (go_at_call 37; refine (none_no b m mk mb hk hb kk kb last _ h).mono ?_; rintro e w' ⟨rfl, rfl⟩))
  refine wp_region_seq 6 (fun w1 => Below ((w.alloc (.cells #[.int .u64 k, .int .u64 y] 49))).heap.size ((w.alloc (.cells #[.int .u64 k, .int .u64 y] 49))) w1) (by kernel_rfl) (by kernel_rfl) (by kernel_rfl) ⟨rfl, rfl, rfl, Nat.le_refl _, fun _ _ => rfl⟩ ?_
  dsimp only [List.take]
  iterate 6
    refine Seq.cons (a' := ?_) ?_ ?_ ?_
    rotate_left
    ·
      intro w1 hw1
      have h' := blk_below hA hw1 (by simp; omega)
      have hc' := blk_below hcA hw1 (by simp; omega)
      have hN' := blk_below hN hw1 (by simp)
      have n0 := cell_of hN' 0
      have n1 := cell_of hN' 1
      go_wp2_with (first | (go_at_call 104; refine (HR.out _ h' hc').mono ?_; rintro e w' ⟨rfl, hb⟩) | (go_at_call 96; refine (least_fit _ _ _ _ _ h1 h2).mono ?_; rintro e w' ⟨rfl, hb⟩))
      refine ⟨?_, by first | assumption | (simpa using below_chain hw1 hb hw1.size)⟩
      exact rfl
    · kernel_rfl
  refine SeqI.nil ?_
  intro _ w1 _ hw1
  dsimp only [List.drop]
  have h' := blk_below hA hw1 (by simp; omega)
  have hc' := blk_below hcA hw1 (by simp; omega)
  have hN' := blk_below hN hw1 (by simp)
  have n0 := cell_of hN' 0
  have n1 := cell_of hN' 1
  go_wp2_with (go_at_call 105; refine (pay2_any c b m mk mb hk hb kk kb last _ _ _ h' hc').mono ?_; rintro e w2 ⟨rfl, hP, hM⟩)
  go_ret
  exact ⟨rfl, hP, Mod.trans (Mod.ofBelow (((Below.refl _ _).alloc (Nat.le_refl _) _).trans (hw1.mono (by simp)))) hM (fun _ _ h => h)⟩

theorem reserve_room (c b m : Nat) (mk mb hk hb kk kb last rk rb : Int) (hrk : (IntKind.u64.wrap (mk - IntKind.u64.wrap (hk + kk))) = rk) (hrb : (IntKind.u64.wrap (mb - IntKind.u64.wrap (hb + kb))) = rb) (w : World) (h : w.heap[b]? = some (PBlk mk mb hk hb kk kb last (some m))) (hc : w.heap[c]? = some (.cells #[.pointer (some ⟨b, 0, none⟩)] 37)) :
    Calls Try.prog 92 #[.pointer (some ⟨c, 0, none⟩)] w fun e w' => e = .returned (.agg #[.int .u64 rk, .int .u64 rb]) ∧ Below w.heap.size w w' := by
  subst hrk hrb
  exact reserve1_any c b m mk mb hk hb kk kb last w h hc

theorem spend_reserve_no (c d : Nat) (b m : Nat) (mk mb hk hb kk kb last k y rk rb : Int) (w : World) (h : w.heap[b]? = some (PBlk mk mb hk hb kk kb last (some m))) (hc : w.heap[c]? = some (.cells #[.pointer (some ⟨b, 0, none⟩)] 37)) (hrk : (IntKind.u64.wrap (mk - IntKind.u64.wrap (hk + kk))) = rk) (hrb : (IntKind.u64.wrap (mb - IntKind.u64.wrap (hb + kb))) = rb) (hno : ¬ (k ≤ rk ∧ y ≤ rb)) :
    Calls Try.prog 91 #[.pointer (some ⟨b, 0, none⟩), .int .u64 k, .int .u64 y, .func (.func 92) #[] #[.pointer (some ⟨c, 0, none⟩)], .func (.func 94) #[] #[.pointer (some ⟨c, 0, none⟩), .pointer (some ⟨d, 0, none⟩)]] w fun e w' => e = .returned (.int .i64 10) ∧ Below w.heap.size w w' := by
  have HR := hid (fun (w : World) => reserve_room c b m mk mb hk hb kk kb last rk rb hrk hrb w)
  clear hrk hrb
  by_cases h1 : k ≤ rk
  · have h2 : rb < y := by have : ¬ y ≤ rb := fun h => hno ⟨h1, h⟩
                           omega
    have q1 : (rb == y) = false := by simp; omega
    clear hno
    have hA := blk_alloc (o' := (.cells #[.int .u64 k, .int .u64 y] 49)) h
    have hcA := blk_alloc (o' := (.cells #[.int .u64 k, .int .u64 y] 49)) hc
    have hN := heap_new w (.cells #[.int .u64 k, .int .u64 y] 49)
    have hcl := lt_of_block hc
    have cl := lt_of_block h
    go_enter Try.func91, Try.ntmps91
    go_wp2_with (first | (go_at_call 37; refine (none_no b m mk mb hk hb kk kb last _ h).mono ?_; rintro e w' ⟨rfl, rfl⟩))
    refine wp_region_seq 6 (fun w1 => Below ((w.alloc (.cells #[.int .u64 k, .int .u64 y] 49))).heap.size ((w.alloc (.cells #[.int .u64 k, .int .u64 y] 49))) w1) (by kernel_rfl) (by kernel_rfl) (by kernel_rfl) ⟨rfl, rfl, rfl, Nat.le_refl _, fun _ _ => rfl⟩ ?_
    dsimp only [List.take]
    iterate 6
      refine Seq.cons (a' := ?_) ?_ ?_ ?_
      rotate_left
      ·
        intro w1 hw1
        have h' := blk_below hA hw1 (by simp; omega)
        have hc' := blk_below hcA hw1 (by simp; omega)
        have hN' := blk_below hN hw1 (by simp)
        have n0 := cell_of hN' 0
        have n1 := cell_of hN' 1
        go_wp2_with (first | (go_at_call 92; refine (HR.out _ h' hc').mono ?_; rintro e w' ⟨rfl, hb⟩) | (go_at_call 96; refine (least_no2 _ _ _ _ _ h1 h2).mono ?_; rintro e w' ⟨rfl, hb⟩))
        refine ⟨?_, by first | assumption | (simpa using below_chain hw1 hb hw1.size)⟩
        exact rfl
      · kernel_rfl
    refine SeqI.nil ?_
    intro _ w1 _ hw1
    dsimp only [List.drop]
    go_wp2
    go_ret
    exact ⟨rfl, ((Below.refl _ _).alloc (Nat.le_refl _) _).trans (hw1.mono (by simp))⟩
  · have h1' : rk < k := by omega
    have q1 : (rk == k) = false := by simp; omega
    clear hno h1
    have hA := blk_alloc (o' := (.cells #[.int .u64 k, .int .u64 y] 49)) h
    have hcA := blk_alloc (o' := (.cells #[.int .u64 k, .int .u64 y] 49)) hc
    have hN := heap_new w (.cells #[.int .u64 k, .int .u64 y] 49)
    have hcl := lt_of_block hc
    have cl := lt_of_block h
    go_enter Try.func91, Try.ntmps91
    go_wp2_with (first | (go_at_call 37; refine (none_no b m mk mb hk hb kk kb last _ h).mono ?_; rintro e w' ⟨rfl, rfl⟩))
    refine wp_region_seq 6 (fun w1 => Below ((w.alloc (.cells #[.int .u64 k, .int .u64 y] 49))).heap.size ((w.alloc (.cells #[.int .u64 k, .int .u64 y] 49))) w1) (by kernel_rfl) (by kernel_rfl) (by kernel_rfl) ⟨rfl, rfl, rfl, Nat.le_refl _, fun _ _ => rfl⟩ ?_
    dsimp only [List.take]
    iterate 6
      refine Seq.cons (a' := ?_) ?_ ?_ ?_
      rotate_left
      ·
        intro w1 hw1
        have h' := blk_below hA hw1 (by simp; omega)
        have hc' := blk_below hcA hw1 (by simp; omega)
        have hN' := blk_below hN hw1 (by simp)
        have n0 := cell_of hN' 0
        have n1 := cell_of hN' 1
        go_wp2_with (first | (go_at_call 92; refine (HR.out _ h' hc').mono ?_; rintro e w' ⟨rfl, hb⟩) | (go_at_call 96; refine (least_no1 _ _ _ _ _ h1').mono ?_; rintro e w' ⟨rfl, hb⟩))
        refine ⟨?_, by first | assumption | (simpa using below_chain hw1 hb hw1.size)⟩
        exact rfl
      · kernel_rfl
    refine SeqI.nil ?_
    intro _ w1 _ hw1
    dsimp only [List.drop]
    go_wp2
    go_ret
    exact ⟨rfl, ((Below.refl _ _).alloc (Nat.le_refl _) _).trans (hw1.mono (by simp))⟩

theorem spend_reserve_yes (c d : Nat) (b m : Nat) (mk mb hk hb kk kb last k y rk rb : Int) (w : World) (h : w.heap[b]? = some (PBlk mk mb hk hb kk kb last (some m))) (hc : w.heap[c]? = some (.cells #[.pointer (some ⟨b, 0, none⟩)] 37)) (hrk : (IntKind.u64.wrap (mk - IntKind.u64.wrap (hk + kk))) = rk) (hrb : (IntKind.u64.wrap (mb - IntKind.u64.wrap (hb + kb))) = rb) (h1 : k ≤ rk) (h2 : y ≤ rb) (l : List (Int × Int × Int)) (hd : w.heap[d]? = some (.cells #[.int .i64 0] 3)) (hm : MapOf (Value.int .i64) lim w m l) (hcb : c ≠ b) (hdb : d ≠ b) (hdc : d ≠ c) (hl0 : 0 ≤ last) (hl1 : last < 4000000000) (hnew : l.lookup (last + 1) = none) :
    Calls Try.prog 91 #[.pointer (some ⟨b, 0, none⟩), .int .u64 k, .int .u64 y, .func (.func 92) #[] #[.pointer (some ⟨c, 0, none⟩)], .func (.func 94) #[] #[.pointer (some ⟨c, 0, none⟩), .pointer (some ⟨d, 0, none⟩)]] w fun e w' => e = .returned (.int .i64 0) ∧ w'.heap[b]? = some (PBlk mk mb hk hb (IntKind.u64.wrap (kk + k)) (IntKind.u64.wrap (kb + y)) (last + 1) (some m)) ∧ w'.heap[d]? = some (.cells #[.int .i64 (last + 1)] 3) ∧ MapOf (Value.int .i64) lim w' m (l ++ [(last + 1, k, y)]) ∧ Mod (fun i => i = b ∨ i = d ∨ i = m) w w' := by
  have HR := hid (fun (w : World) => reserve_room c b m mk mb hk hb kk kb last rk rb hrk hrb w)
  clear hrk hrb
  have hA := blk_alloc (o' := (.cells #[.int .u64 k, .int .u64 y] 49)) h
  have hcA := blk_alloc (o' := (.cells #[.int .u64 k, .int .u64 y] 49)) hc
  have hN := heap_new w (.cells #[.int .u64 k, .int .u64 y] 49)
  have hcl := lt_of_block hc
  have cl := lt_of_block h
  go_enter Try.func91, Try.ntmps91
  go_wp2_with (first | (go_at_call 37; refine (none_no b m mk mb hk hb kk kb last _ h).mono ?_; rintro e w' ⟨rfl, rfl⟩))
  refine wp_region_seq 6 (fun w1 => Below ((w.alloc (.cells #[.int .u64 k, .int .u64 y] 49))).heap.size ((w.alloc (.cells #[.int .u64 k, .int .u64 y] 49))) w1) (by kernel_rfl) (by kernel_rfl) (by kernel_rfl) ⟨rfl, rfl, rfl, Nat.le_refl _, fun _ _ => rfl⟩ ?_
  dsimp only [List.take]
  iterate 6
    refine Seq.cons (a' := ?_) ?_ ?_ ?_
    rotate_left
    ·
      intro w1 hw1
      have h' := blk_below hA hw1 (by simp; omega)
      have hc' := blk_below hcA hw1 (by simp; omega)
      have hN' := blk_below hN hw1 (by simp)
      have n0 := cell_of hN' 0
      have n1 := cell_of hN' 1
      go_wp2_with (first | (go_at_call 92; refine (HR.out _ h' hc').mono ?_; rintro e w' ⟨rfl, hb⟩) | (go_at_call 96; refine (least_fit _ _ _ _ _ h1 h2).mono ?_; rintro e w' ⟨rfl, hb⟩))
      refine ⟨?_, by first | assumption | (simpa using below_chain hw1 hb hw1.size)⟩
      exact rfl
    · kernel_rfl
  refine SeqI.nil ?_
  intro _ w1 _ hw1
  dsimp only [List.drop]
  have h' := blk_below hA hw1 (by simp; omega)
  have hc' := blk_below hcA hw1 (by simp; omega)
  have hN' := blk_below hN hw1 (by simp)
  have n0 := cell_of hN' 0
  have n1 := cell_of hN' 1
  have hd' := blk_below (blk_alloc (o' := (.cells #[.int .u64 k, .int .u64 y] 49)) hd) hw1 (by have := lt_of_block hd; simp; omega)
  have hm' := (hm.alloc (.cells #[.int .u64 k, .int .u64 y] 49)).below hw1 (by have := hm.lt; simp; omega)
  have HH := hid (fun (w : World) => reserve2_any c d b m mk mb hk hb kk kb last k y l w)
  have HL := hid hnew
  clear hnew
  go_wp2_with (go_at_call 94; refine (HH.out _ h' hc' hd' hm' hcb hdb hdc hl0 hl1 HL.out).mono ?_; rintro e w2 ⟨rfl, hP, hPd, hPm, hM⟩)
  go_ret
  exact ⟨rfl, hP, hPd, hPm, Mod.trans (Mod.ofBelow (((Below.refl _ _).alloc (Nat.le_refl _) _).trans (hw1.mono (by simp)))) hM (fun _ _ h => h)⟩
end Go.Proofs.Ytgdmfledhhoedaa
