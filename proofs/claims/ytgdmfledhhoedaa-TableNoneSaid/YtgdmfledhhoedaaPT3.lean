/- The purse's closures: what is left, what is had; what is done with an amount. -/
import Derived.Test.YtgdmfledhhoedaaPT2
namespace Go.Proofs.Ytgdmfledhhoedaa
set_option maxRecDepth 8000
open Go.ChangeShapes Go.WideShapes Go.ChangeAt Go.RowKit Go.Burg

theorem reserve1_any (c b m : Nat) (mk mb hk hb kk kb last : Int) (w : World) (h : w.heap[b]? = some (PBlk mk mb hk hb kk kb last (some m))) (hc : w.heap[c]? = some (.cells #[.pointer (some ⟨b, 0, none⟩)] 37)) :
    Calls Try.prog 92 #[.pointer (some ⟨c, 0, none⟩)] w fun e w' => e = .returned (.agg #[.int .u64 (IntKind.u64.wrap (mk - IntKind.u64.wrap (hk + kk))), .int .u64 (IntKind.u64.wrap (mb - IntKind.u64.wrap (hb + kb)))]) ∧ Below w.heap.size w w' := by
  have hA := blk_alloc (o' := (.cells #[.int .u64 0, .int .u64 0] 49)) h
  have hN := heap_new w (.cells #[.int .u64 0, .int .u64 0] 49)
  have hC := cell_of hc 0
  have hcl := lt_of_block hc
  obtain ⟨c0, c1, c2, c3, c4, c5, c6, c7, cf, cl⟩ := pfacts h
  go_enter Try.func92, Try.ntmps92
  go_wp2_with (first | (go_at_call 93; refine (left_any b mk mb hk hb kk kb last (some m) _ hA).mono ?_; rintro e w1 ⟨rfl, hb1⟩; have hr := blk_below hN hb1 (by simp); have r0 := cell_of hr 0; have r1 := cell_of hr 1; have rf := free_of hr))
  refine bodyPost_ret (v := .agg #[_, _]) (by simp [results, Try.results92, go_sem, r0, r1]) rfl ⟨rfl, ?_⟩
  exact (((Below.refl _ _).alloc (Nat.le_refl _) _).trans (hb1.mono (by simp))).setCell (Nat.le_refl _) _ |>.setCell (Nat.le_refl _) _

theorem pay1_any (c b m : Nat) (mk mb hk hb kk kb last : Int) (w : World) (h : w.heap[b]? = some (PBlk mk mb hk hb kk kb last (some m))) (hc : w.heap[c]? = some (.cells #[.pointer (some ⟨b, 0, none⟩)] 37)) :
    Calls Try.prog 104 #[.pointer (some ⟨c, 0, none⟩)] w fun e w' => e = .returned (.agg #[.int .u64 hk, .int .u64 hb]) ∧ Below w.heap.size w w' := by
  have hC := cell_of hc 0
  have hcl := lt_of_block hc
  obtain ⟨c0, c1, c2, c3, c4, c5, c6, c7, cf, cl⟩ := pfacts h
  go_enter Try.func104, Try.ntmps104
  go_wp2
  refine bodyPost_ret (v := .agg #[_, _]) (by simp [results, Try.results104, go_sem]) rfl ⟨rfl, ?_⟩
  (repeat (first | exact Below.refl _ _ | assumption | refine Below.drew ?_ | refine Below.setCell ?_ (by simp) _ | refine Below.alloc ?_ (by first | exact Nat.le_refl _ | (simp; done) | (simp; omega)) _))

theorem pay2_any (c b m : Nat) (mk mb hk hb kk kb last k y : Int) (w : World) (h : w.heap[b]? = some (PBlk mk mb hk hb kk kb last (some m))) (hc : w.heap[c]? = some (.cells #[.pointer (some ⟨b, 0, none⟩)] 37)) :
    Calls Try.prog 105 #[.agg #[.int .u64 k, .int .u64 y], .pointer (some ⟨c, 0, none⟩)] w fun e w' => e = .returned (.tuple #[]) ∧ w'.heap[b]? = some (PBlk mk mb (IntKind.u64.wrap (hk - k)) (IntKind.u64.wrap (hb - y)) kk kb last (some m)) ∧ Mod (· = b) w w' := by
  have hC := cell_of hc 0
  have hcl := lt_of_block hc
  have hA := blk_alloc (o' := (.cells #[.int .u64 k, .int .u64 y] 49)) h
  have hcA := blk_alloc (o' := (.cells #[.int .u64 k, .int .u64 y] 49)) hc
  have hN := heap_new w (.cells #[.int .u64 k, .int .u64 y] 49)
  obtain ⟨c0, c1, c2, c3, c4, c5, c6, c7, cf, cl⟩ := pfacts h
  go_enter Try.func105, Try.ntmps105
  go_wp2
  refine wp_region_exact (F := ?F) 8 (fun w1 => Below ((w.alloc (.cells #[.int .u64 k, .int .u64 y] 49))).heap.size ((w.alloc (.cells #[.int .u64 k, .int .u64 y] 49))) w1) (by kernel_rfl) (by kernel_rfl) ?find ?hF ?hlt ?h0 ?hs ?hend
  case find =>
    dsimp only [List.take]
    go_wp2_with (go_at_call 95; refine (minus_any _ _ _ _ _).mono ?_; rintro e w' ⟨rfl, hb⟩)
    exact rfl
  case hF => kernel_rfl
  case hlt => kernel_rfl
  case h0 => exact ⟨rfl, rfl, rfl, Nat.le_refl _, fun _ _ => rfl⟩
  case hs =>
    dsimp only [List.take, AllOps]
    (repeat' apply And.intro)
    all_goals
      intro w1 hw1
      have h' := blk_below hA hw1 (by simp; omega)
      have hC' := cell_of (blk_below hcA hw1 (by simp; omega)) 0
      have hN' := blk_below hN hw1 (by simp)
      have n0 := cell_of hN' 0
      have n1 := cell_of hN' 1
      clear c0 c1 c2 c3 c4 c5 c6 c7 cf hC
      obtain ⟨c0, c1, c2, c3, c4, c5, c6, c7, cf, cl⟩ := pfacts h'
      go_wp2_with (go_at_call 95; refine (minus_any _ _ _ _ _).mono ?_; rintro e w' ⟨rfl, hb⟩)
    all_goals exact ⟨rfl, by first | assumption | (simpa using below_chain hw1 hb hw1.size)⟩
  case hend =>
    intro w1 hw1
    have h' := blk_below hA hw1 (by simp; omega)
    dsimp only [List.drop]
    clear c0 c1 c2 c3 c4 c5 c6 c7 cf hC
    obtain ⟨c0, c1, c2, c3, c4, c5, c6, c7, cf, cl⟩ := pfacts h'
    go_wp2
    go_end0
    refine ⟨rfl, ?_, ?_⟩
    · have := heap_set (i := 3) (v := .int .u64 (IntKind.u64.wrap (hb - y))) (heap_set (i := 2) (v := .int .u64 (IntKind.u64.wrap (hk - k))) h')
      simpa [PBlk] using this
    · exact Mod.setCell (S := (· = b)) (p := ⟨b, 3, none⟩) (Mod.setCell (S := (· = b)) (p := ⟨b, 2, none⟩) (Mod.ofBelow (((Below.refl _ _).alloc (Nat.le_refl _) _).trans (hw1.mono (by simp)))) (.inl rfl) _) (.inl rfl) _

/-- On the way through 'p.open[n], p.kept = a, plus(p.kept, a)': what the map holds. -/
def Midway (W : World) (m : Nat) (l : List (Int × Int × Int)) (n : Int) (v : Int × Int) (s : Nat) (b14 b16 : Bool) (w1 : World) : Prop :=
  Mod (· = m) W w1 ∧ match b14, b16 with
    | true, true => MapOf (Value.int .i64) lim w1 m (l ++ [(n, v)])
    | true, false => MapNew (Value.int .i64) lim w1 m l n (0, 0) s
    | false, false => MapOf (Value.int .i64) lim w1 m l ∧ ClockAt w1 m s
    | false, true => False

theorem Midway.below {W w1 w2 : World} {m : Nat} {l : List (Int × Int × Int)} {n : Int} {v : Int × Int} {s : Nat} {b14 b16 : Bool} (h : Midway W m l n v s b14 b16 w1) (hm : m < W.heap.size) (hb : Below w1.heap.size w1 w2) : Midway W m l n v s b14 b16 w2 := by
  obtain ⟨h1, h2⟩ := h
  have hlt : m < w1.heap.size := Nat.lt_of_lt_of_le hm h1.size
  refine ⟨h1.trans (S' := fun _ => False) (Mod.ofBelow hb) (fun _ _ h => h.elim), ?_⟩
  cases b14 <;> cases b16 <;> simp only at h2 ⊢
  · exact ⟨h2.1.below hb hlt, h2.2.same (hb.block m hlt)⟩
  · exact h2.same (hb.block m hlt)
  · exact h2.below hb hlt

set_option maxHeartbeats 1000000 in
theorem reserve2_any (c d b m : Nat) (mk mb hk hb kk kb last k y : Int) (l : List (Int × Int × Int)) (w : World) (h : w.heap[b]? = some (PBlk mk mb hk hb kk kb last (some m))) (hc : w.heap[c]? = some (.cells #[.pointer (some ⟨b, 0, none⟩)] 37))
    (hd : w.heap[d]? = some (.cells #[.int .i64 0] 3)) (hm : MapOf (Value.int .i64) lim w m l) (hcb : c ≠ b) (hdb : d ≠ b) (hdc : d ≠ c) (hl0 : 0 ≤ last) (hl1 : last < 4000000000) (hnew : l.lookup (last + 1) = none) :
    Calls Try.prog 94 #[.agg #[.int .u64 k, .int .u64 y], .pointer (some ⟨c, 0, none⟩), .pointer (some ⟨d, 0, none⟩)] w fun e w' => e = .returned (.tuple #[]) ∧ w'.heap[b]? = some (PBlk mk mb hk hb (IntKind.u64.wrap (kk + k)) (IntKind.u64.wrap (kb + y)) (last + 1) (some m)) ∧
      w'.heap[d]? = some (.cells #[.int .i64 (last + 1)] 3) ∧ MapOf (Value.int .i64) lim w' m (l ++ [(last + 1, k, y)]) ∧ Mod (fun i => i = b ∨ i = d ∨ i = m) w w' := by
  have hC := cell_of hc 0
  have hcl := lt_of_block hc
  have hD := cell_of hd 0
  have hDf := free_of hd
  have hdl := lt_of_block hd
  obtain ⟨c0, c1, c2, c3, c4, c5, c6, c7, cf, cl⟩ := pfacts h
  go_enter Try.func94, Try.ntmps94
  go_wp2
  obtain ⟨s, hs⟩ := hm.clock
  have hml := hm.lt
  have hmap : ∃ es c, w.heap[m]? = some (.map es c) := by obtain ⟨es, c, h1, _⟩ := hm; exact ⟨es, c, h1⟩
  have hne : ∀ (i : Nat) (cs : Array Value) (T : TypeId) (fz : Nat × Nat), w.heap[i]? = some (.cells cs T fz) → i ≠ m := fun i cs T fz h1 h2 => by
    obtain ⟨es, c, h3⟩ := hmap
    subst h2
    rw [h1] at h3
    cases h3
  have nb := hne _ _ _ _ h
  have nc := hne _ _ _ _ hc
  have nd := hne _ _ _ _ hd
  -- what stands when the region begins
  have hsz : (((w.setCell ⟨b, 7, none⟩ (.int .i64 (last + 1))).setCell ⟨d, 0, none⟩ (.int .i64 (last + 1)))).heap.size = w.heap.size := by simp [World.setCell]
  have hWb : ((((w.setCell ⟨b, 7, none⟩ (.int .i64 (last + 1))).setCell ⟨d, 0, none⟩ (.int .i64 (last + 1))).alloc (.cells #[.int .u64 k, .int .u64 y] 49))).heap[b]? = some (PBlk mk mb hk hb kk kb (last + 1) (some m)) := by
    refine blk_alloc ?_
    rw [Below.heap_setCell _ _ _ _ (by simpa using Ne.symm hdb)]
    have := heap_set (i := 7) (v := .int .i64 (last + 1)) h
    simpa [PBlk] using this
  have hWc : ((((w.setCell ⟨b, 7, none⟩ (.int .i64 (last + 1))).setCell ⟨d, 0, none⟩ (.int .i64 (last + 1))).alloc (.cells #[.int .u64 k, .int .u64 y] 49))).heap[c]? = some (.cells #[.pointer (some ⟨b, 0, none⟩)] 37) := by
    refine blk_alloc ?_
    rw [Below.heap_setCell _ _ _ _ (by simpa using Ne.symm hdc), Below.heap_setCell _ _ _ _ (by simpa using hcb)]
    exact hc
  have hWd : ((((w.setCell ⟨b, 7, none⟩ (.int .i64 (last + 1))).setCell ⟨d, 0, none⟩ (.int .i64 (last + 1))).alloc (.cells #[.int .u64 k, .int .u64 y] 49))).heap[d]? = some (.cells #[.int .i64 (last + 1)] 3) := by
    refine blk_alloc ?_
    have h1 : (w.setCell ⟨b, 7, none⟩ (.int .i64 (last + 1))).heap[d]? = some (.cells #[.int .i64 0] 3) := by
      rw [Below.heap_setCell _ _ _ _ (by simpa using hdb)]
      exact hd
    have := heap_set (i := 0) (v := .int .i64 (last + 1)) h1
    simpa using this
  have hWa : ((((w.setCell ⟨b, 7, none⟩ (.int .i64 (last + 1))).setCell ⟨d, 0, none⟩ (.int .i64 (last + 1))).alloc (.cells #[.int .u64 k, .int .u64 y] 49))).heap[w.heap.size]? = some (.cells #[.int .u64 k, .int .u64 y] 49) := by
    have := heap_new ((w.setCell ⟨b, 7, none⟩ (.int .i64 (last + 1))).setCell ⟨d, 0, none⟩ (.int .i64 (last + 1))) (.cells #[.int .u64 k, .int .u64 y] 49)
    rwa [hsz] at this
  have hWm : MapOf (Value.int .i64) lim ((((w.setCell ⟨b, 7, none⟩ (.int .i64 (last + 1))).setCell ⟨d, 0, none⟩ (.int .i64 (last + 1))).alloc (.cells #[.int .u64 k, .int .u64 y] 49))) m l := ((hm.setCell (by simpa using Ne.symm nb) _).setCell (by simpa using Ne.symm nd) _).alloc _
  have hWs : ClockAt ((((w.setCell ⟨b, 7, none⟩ (.int .i64 (last + 1))).setCell ⟨d, 0, none⟩ (.int .i64 (last + 1))).alloc (.cells #[.int .u64 k, .int .u64 y] 49))) m s := hs.same (by rw [Below.heap_alloc _ _ _ (by rw [hsz]; exact hml), Below.heap_setCell _ _ _ _ (by simpa using Ne.symm nd), Below.heap_setCell _ _ _ _ (by simpa using Ne.symm nb)])
  have hWl : m < ((((w.setCell ⟨b, 7, none⟩ (.int .i64 (last + 1))).setCell ⟨d, 0, none⟩ (.int .i64 (last + 1))).alloc (.cells #[.int .u64 k, .int .u64 y] 49))).heap.size := hWm.lt
  have hWz : w.heap.size < ((((w.setCell ⟨b, 7, none⟩ (.int .i64 (last + 1))).setCell ⟨d, 0, none⟩ (.int .i64 (last + 1))).alloc (.cells #[.int .u64 k, .int .u64 y] 49))).heap.size := lt_of_block hWa
  have hWM : Mod (fun i => i = b ∨ i = d ∨ i = m) w ((((w.setCell ⟨b, 7, none⟩ (.int .i64 (last + 1))).setCell ⟨d, 0, none⟩ (.int .i64 (last + 1))).alloc (.cells #[.int .u64 k, .int .u64 y] 49))) := by
    refine Mod.alloc ?_ _
    refine Mod.setCell ?_ (by simp) _
    refine Mod.setCell ?_ (by simp) _
    exact Mod.refl _ _
  clear h hc hd hm hC hD hDf c0 c1 c2 c3 c4 c5 c6 c7 cf hs hmap hne hsz
  generalize (((w.setCell ⟨b, 7, none⟩ (.int .i64 (last + 1))).setCell ⟨d, 0, none⟩ (.int .i64 (last + 1))).alloc (.cells #[.int .u64 k, .int .u64 y] 49)) = W at hWb hWc hWd hWa hWm hWs hWl hWz hWM ⊢
  refine wp_region_exactI (F := ?F) 20 (fun D => Midway W m l (last + 1) (k, y) s (D 14) (D 16)) (by kernel_rfl) (by kernel_rfl) ?find ?hF ?hlt ?h0 ?hs ?hend
  case find =>
    obtain ⟨c0, c1, c2, c3, c4, c5, c6, c7, cf, cl⟩ := pfacts hWb
    have g1 := cell_of hWc 0
    have g2 := cell_of hWd 0
    have g3 := cell_of hWa 0
    have g4 := cell_of hWa 1
    dsimp only [List.take]
    go_wp2_with (first | (go_at_call 90; refine (plus_any _ _ _ _ _).mono ?_; rintro e w' ⟨rfl, hb⟩) | (refine wpList_entry_map (z := (0, 0)) rfl _ _ _ rfl keyInt Try.underlying91 zeroLim rfl (last + 1) rfl (hWm.below hb hWl) (hWs.same (hb.block m hWl)) hnew ?_; intro w2 hE hEm) | (refine wpList_fill_map rfl _ _ _ _ rfl rfl rfl (k, y) rfl hE ?_; intro w3 hM3 hM3m))
    exact rfl
  case hF => kernel_rfl
  case hlt => kernel_rfl
  case h0 => exact ⟨(Mod.refl _ _).drew, hWm, hWs⟩
  case hs =>
    dsimp only [List.take, AllOpsI]
    (repeat' apply And.intro)
    all_goals
      intro D w1 hDk hwt hI
      have hBb : w1.heap[b]? = some (PBlk mk mb hk hb kk kb (last + 1) (some m)) := (hI.1.block b (lt_of_block hWb) nb).trans hWb
      have g1 := cell_of ((hI.1.block c (lt_of_block hWc) nc).trans hWc) 0
      have g2 := cell_of ((hI.1.block d (lt_of_block hWd) nd).trans hWd) 0
      have hBa := (hI.1.block _ hWz (by omega)).trans hWa
      have g3 := cell_of hBa 0
      have g4 := cell_of hBa 1
      obtain ⟨c0, c1, c2, c3, c4, c5, c6, c7, cf, cl⟩ := pfacts hBb
      clear hBb hBa
      have HD := hid hDk
      have HW := hid hwt
      have HI := hid hI
      clear hDk hwt hI
      first
        | (go_wp2_with (go_at_call 90; refine (plus_any _ _ _ _ _).mono ?_; rintro e w' ⟨rfl, hb⟩)
           exact ⟨rfl, by simpa using (by first | exact HI.out.below hWl hb | exact HI.out)⟩)
        | (have hI := HI.out
           rw [HD.out] at hI
           cases h16 : D 16
           · rw [h16] at hI
             refine wpList_entry_map (z := (0, 0)) rfl _ _ _ rfl keyInt Try.underlying91 zeroLim rfl (last + 1) rfl hI.2.1 hI.2.2 hnew ?_
             intro w2 hE hEm
             exact ⟨rfl, by simpa [h16] using (show Midway W m l (last + 1) (k, y) s true false w2 from ⟨hI.1.trans hEm (fun _ _ h => h), hE⟩)⟩
           · rw [h16] at hI
             exact hI.2.elim)
        | (have hI := HI.out
           rw [HD.out, HW.out 14 (by decide)] at hI
           refine wpList_fill_map rfl _ _ _ _ rfl rfl rfl (k, y) rfl hI.2 ?_
           intro w2 hE hEm
           exact ⟨rfl, by simpa [HW.out 14 (by decide)] using (show Midway W m l (last + 1) (k, y) s true true w2 from ⟨hI.1.trans hEm (fun _ _ h => h), hE⟩)⟩)
  case hend =>
    intro D w1 hD hI
    rw [hD 14 (by omega), hD 16 (by omega)] at hI
    obtain ⟨hI1, hI2⟩ := hI
    have hBb : w1.heap[b]? = some (PBlk mk mb hk hb kk kb (last + 1) (some m)) := (hI1.block b (lt_of_block hWb) nb).trans hWb
    have hBd := (hI1.block d (lt_of_block hWd) nd).trans hWd
    obtain ⟨c0, c1, c2, c3, c4, c5, c6, c7, cf, cl⟩ := pfacts hBb
    dsimp only [List.drop]
    have HB := hid hBb
    have HDD := hid hBd
    have HI2 := hid hI2
    clear hBb hBd hI2 hD
    go_wp2
    go_end0
    refine ⟨rfl, ?_, ?_, ?_, ?_⟩
    · have := heap_set (i := 5) (v := .int .u64 (IntKind.u64.wrap (kb + y))) (heap_set (i := 4) (v := .int .u64 (IntKind.u64.wrap (kk + k))) HB.out)
      simpa [PBlk] using this
    · rw [Below.heap_setCell _ _ _ _ (by simpa using hdb), Below.heap_setCell _ _ _ _ (by simpa using hdb)]
      exact HDD.out
    · exact (HI2.out.setCell (by simpa using Ne.symm nb) _).setCell (by simpa using Ne.symm nb) _
    · refine Mod.setCell ?_ (by simp) _
      refine Mod.setCell ?_ (by simp) _
      exact hWM.trans hI1 (fun i _ h => .inr (.inr h))
end Go.Proofs.Ytgdmfledhhoedaa
