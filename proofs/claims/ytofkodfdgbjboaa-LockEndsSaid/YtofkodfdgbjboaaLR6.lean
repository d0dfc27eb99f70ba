/- The reference's locks: Gone. -/
import Derived.Test.YtofkodfdgbjboaaLR5
namespace Go.Proofs.Ytofkodfdgbjboaa
open Go.ChangeShapes Go.WideShapes Go.ChangeAt Go.RowKit Go.Burg
open Go.Burg.Lk

theorem one_refs (l : List (RefK × Wd)) : ∀ u ∈ refsOf l, u.oneCell' = true := by
  intro u hu
  obtain ⟨x, _, hx⟩ := List.mem_flatMap.1 hu
  simp at hx
  rcases hx with rfl | rfl <;> rfl
theorem one_words (l : List (RefK × Wd)) : ∀ u ∈ wordsOf l, u.oneCell' = true := by
  intro u hu
  obtain ⟨x, _, rfl⟩ := List.mem_map.1 hu
  rfl

theorem below_row {w w' : World} {B : Nat} {row : Option Nat} (h : w.grownBy w' row) (hr : ∀ k, row = some k → B ≤ k) (hB : B ≤ w.heap.size) : Below B w w' :=
  ⟨h.os, h.tape, h.output, h.size, fun k hk => h.block k (by omega) (fun e => by have := hr k e.symm; omega)⟩

/-- 'append(append([]T{}, s[:n]...), s[n+1:]...)': the worlds on the way. -/
theorem rebuild {W0 : World} {T sT : TypeId} {it : TypeInfo} {z : Value} {size bytes : Nat} (hs : Try.prog.underlying sT = some (.slice T)) (hi : Try.prog.info? T = some it) (hz : it.zero = some z) (hsz : it.size = size) (hby : it.bytes = bytes)
    (hzs : z.cells.size = size) (h0 : 0 < size) (hb : bytes ≤ 16) {g cap L n : Nat} {xs : List Value} (h : W0.ownsRow 0 T size (.slice (some ⟨g, 0, none⟩) L cap) L xs) (hone : ∀ u ∈ xs, u.oneCell' = true) (hn : n < L) (hL : L ≤ 10000) (ad : Addr)
    (had : ∀ j u, (xs.drop ((n + 1) * size))[j]? = some u → ad.add j = (⟨g, 0, none⟩ : Addr).add ((n + 1) * size + j)) :
    ∃ v5 W2 a6 c6 W3, (Builtin.append_ #[sT, sT] sT #[.slice (some ⟨W0.heap.size, 0, none⟩) 0 0, .slice (some ⟨g, 0, none⟩) n cap]).run Try.prog (W0.alloc (.cells #[] T)) = .ok v5 W2 ∧
      (Builtin.append_ #[sT, sT] sT #[v5, .slice (some ad) (L - (n + 1)) (cap - (n + 1))]).run Try.prog W2 = .ok (.slice a6 (L - 1) c6) W3 ∧
      W3.ownsRow 0 T size (.slice a6 (L - 1) c6) (L - 1) (xs.take (n * size) ++ xs.drop ((n + 1) * size)) ∧ Below W0.heap.size W0 W2 ∧ Below W0.heap.size W0 W3 ∧ (∀ k, (Value.slice a6 (L - 1) c6).ownBlock = some k → W0.heap.size ≤ k) := by
  have hlen : xs.length = L * size := h.1
  have hns : n * size ≤ L * size := Nat.mul_le_mul_right _ (by omega)
  have hns1 : (n + 1) * size ≤ L * size := Nat.mul_le_mul_right _ (by omega)
  have hg : g < W0.heap.size := (World.ownsRow.lt h g rfl).2
  have hB1 : Below W0.heap.size W0 (W0.alloc (.cells #[] T)) := (Below.refl _ _).alloc (Nat.le_refl _) _
  have hrow : (W0.alloc (.cells #[] T)).ownsRow W0.heap.size T size (.slice (some ⟨W0.heap.size, 0, none⟩) 0 0) 0 [] := ⟨by simp, .inr ⟨W0.heap.size, 0, #[], rfl, Nat.le_refl _, heap_new _ _, Nat.le_refl _, by simp [maxLen], by simp, by simp⟩⟩
  have hcell : ∀ (W : World), Below W0.heap.size W0 W → ∀ j u, xs[j]? = some u → W.cell? ((⟨g, 0, none⟩ : Addr).add j) = some u := fun W hB j u hj =>
    (World.ownsRow.cells (World.ownsRow.kept (row := none) h ⟨hB.os, hB.tape, hB.output, hB.size, fun k hk _ => hB.block k hk⟩ (Classical.em _)) (g := g) rfl) j u hj
  obtain ⟨v5, W2, hr1, hO2, hG2, _, hl2⟩ := run_append_own_at (P := Try.prog) (W0.alloc (.cells #[] T)) W0.heap.size sT sT T it z size bytes hs hi hz hsz hby hzs h0 (.slice (some ⟨W0.heap.size, 0, none⟩) 0 0) 0 [] hrow ⟨g, 0, none⟩ n cap (xs.take (n * size))
    (by rw [List.length_take]; omega) (fun j u hj => hcell _ hB1 j u (by rw [List.getElem?_take] at hj; split at hj; exact hj; cases hj)) (fun u hu => hone u (List.mem_of_mem_take hu)) (by simp [maxLen]; omega)
    (by have : n * bytes ≤ n * 16 := Nat.mul_le_mul_left _ hb; rw [Nat.zero_add]; omega) (by simp)
  have hB2 : Below W0.heap.size W0 W2 := hB1.trans (below_row hG2 (fun k e => by simp [Value.ownBlock] at e; omega) (by simp))
  rw [List.nil_append, Nat.zero_add] at hO2
  obtain ⟨v6, W3, hr2, hO3, hG3, _, hl3⟩ := run_append_own_at (P := Try.prog) W2 W0.heap.size sT sT T it z size bytes hs hi hz hsz hby hzs h0 v5 n (xs.take (n * size)) hO2 ad (L - (n + 1)) (cap - (n + 1)) (xs.drop ((n + 1) * size))
    (by rw [List.length_drop, hlen, Nat.sub_mul]) (fun j u hj => by
      rw [had j u hj]
      rw [List.getElem?_drop] at hj
      exact hcell _ hB2 _ u hj) (fun u hu => hone u (List.mem_of_mem_drop hu)) (by simp [maxLen]; omega)
    (by have : (n + (L - (n + 1))) * bytes ≤ (n + (L - (n + 1))) * 16 := Nat.mul_le_mul_left _ hb; omega) hB2.size
  rw [show n + (L - (n + 1)) = L - 1 by omega] at hO3
  have hB3 : Below W0.heap.size W0 W3 := hB2.trans (below_row hG3 (fun k e => (World.ownsRow.lt hO2 k e).1) hB2.size)
  have hO0 : W3.ownsRow 0 T size v6 (L - 1) (xs.take (n * size) ++ xs.drop ((n + 1) * size)) := by
    refine ⟨hO3.1, ?_⟩
    rcases hO3.2 with h | ⟨a, b, c, h1, h2, h3⟩
    · exact .inl h
    · exact .inr ⟨a, b, c, h1, Nat.zero_le _, h3⟩
  obtain ⟨a6, c6, rfl, _⟩ := row_form hO0
  exact ⟨v5, W2, a6, c6, W3, hr1, hr2, hO0, hB2, hB3, fun k e => (World.ownsRow.lt hO3 k e).1⟩
theorem adr_far {g size n : Nat} {xs : List Value} : ∀ j u, (xs.drop ((n + 1) * size))[j]? = some u → (⟨g, (n + 1) * size, none⟩ : Addr).add j = (⟨g, 0, none⟩ : Addr).add ((n + 1) * size + j) := by
  intro j u _
  simp only [Addr.add]
  by_cases hj : j = 0 <;> by_cases hs : (n + 1) * size = 0 <;> simp [hj, hs]
theorem adr_one {g n : Nat} {xs : List Value} : ∀ j u, (xs.drop ((n + 1) * 1))[j]? = some u → (⟨g, n + 1, none⟩ : Addr).add j = (⟨g, 0, none⟩ : Addr).add ((n + 1) * 1 + j) := by
  intro j u _
  simp only [Addr.add]
  by_cases hj : j = 0 <;> simp [hj]
theorem adr_end {g size n : Nat} {xs : List Value} (h : xs.length = (n + 1) * size) : ∀ j u, (xs.drop ((n + 1) * size))[j]? = some u → (⟨g, 0, none⟩ : Addr).add j = (⟨g, 0, none⟩ : Addr).add ((n + 1) * size + j) := by
  intro j u hj
  rw [← h, List.drop_length] at hj
  simp at hj

/-- On the way through a statement that rebuilds a row. -/
structure GoneMid (W0 W1 W2 W3 W4 : World) (p : Nat) (o o' : Obj) (b1 b2 b3 b4 : Bool) (w : World) : Prop where
  pin : w = if b4 then W4 else if b3 then W3 else if b2 then W2 else if b1 then W1 else W0
  hd : w.heap[p]? = some (if b4 then o' else o)

section
variable {w : World} {p : Nat} {rv wv : Value} {l : List (RefK × Wd)} {tk : Int}

theorem refs_erase (l : List (RefK × Wd)) (n : Nat) : refsOf (l.eraseIdx n) = (refsOf l).take (n * 2) ++ (refsOf l).drop ((n + 1) * 2) := by
  induction l generalizing n with
  | nil => simp [refsOf]
  | cons x l ih =>
    cases n with
    | zero => simp [refsOf]
    | succ n =>
      have := ih n
      simp only [refsOf, List.eraseIdx_cons_succ, List.flatMap_cons] at this ⊢
      rw [this, show (n + 1) * 2 = n * 2 + 2 by omega, show (n + 1 + 1) * 2 = (n + 1) * 2 + 2 by omega]
      simp
      omega
theorem words_erase (l : List (RefK × Wd)) (n : Nat) : wordsOf (l.eraseIdx n) = (wordsOf l).take (n * 1) ++ (wordsOf l).drop ((n + 1) * 1) := by
  rw [Nat.mul_one, Nat.mul_one]
  unfold wordsOf
  rw [List.eraseIdx_eq_take_drop_succ, List.map_append, List.map_take, List.map_drop]
set_option maxRecDepth 20000 in
set_option maxHeartbeats 4000000 in
theorem rgone_yes (h : RAt w p rv wv l tk) (r : RefK) (hn : l.length ≤ 10000) (hnd : (l.map Prod.fst).Nodup) (n : Nat) (hx : idx l r = some n) : Calls Try.prog 38 #[.pointer (some ⟨p, 0, none⟩), .agg #[.int .i64 r.1.1, .int .u32 r.1.2]] w fun e w' => ∃ rv' wv', e = .returned (.int .i64 0) ∧ RAt w' p rv' wv' (l.eraseIdx n) tk ∧ Mod (ROwn p rv wv) w w' ∧
    (∀ g, rv'.ownBlock = some g → rv.ownBlock = some g ∨ w.heap.size ≤ g) ∧ (∀ g, wv'.ownBlock = some g → wv.ownBlock = some g ∨ w.heap.size ≤ g) := by
  obtain ⟨it, hit, hzi, hszi, hbyi⟩ := info_parts (P := Try.prog) (e := 30) (z := .agg #[.int .i64 0, .int .u32 0]) (size := 2) (bytes := 16) (by kernel_rfl)
  obtain ⟨iw, hiw, hzw, hszw, hbyw⟩ := info_parts (P := Try.prog) (e := 24) (z := .int .u64 0) (size := 1) (bytes := 8) (by kernel_rfl)
  have HA := hid (h.alloc (.cells #[.int .i64 r.1.1, .int .u32 r.1.2] 30))
  have HN := hid (heap_new w (.cells #[.int .i64 r.1.1, .int .u32 r.1.2] 30))
  have HB0 : Hid (Below w.heap.size w (w.alloc (.cells #[.int .i64 r.1.1, .int .u32 r.1.2] 30))) := hid ((Below.refl _ _).alloc (Nat.le_refl _) _)
  have R := at_any HA.out r (by omega)
  rw [hx] at R
  have HAT := hid R
  have n0 := cell_of HN.out 0
  have n1 := cell_of HN.out 1
  obtain ⟨⟨y, hy, _⟩, _⟩ := idx_some hx
  have hlt := (List.getElem?_eq_some_iff.1 hy).1
  obtain ⟨a1, cap1, rfl, hf1⟩ := row_form h.rs
  obtain ⟨g1, rfl, hg1, hc1, hc1'⟩ := hf1 (by omega)
  obtain ⟨a2, cap2, rfl, hf2⟩ := row_form h.ws
  obtain ⟨g2, rfl, hg2, hc2, hc2'⟩ := hf2 (by omega)
  unfold maxLen at hc1' hc2'
  have hnn : decide ((n : Int) < 0) = false := by simp
  have hpl := h.lt
  clear h R hx hf1 hf2 hy
  go_enter Try.func38, Try.ntmps38
  go_wp2_with (go_at_call 56; refine HAT.out.mono ?_; rintro e w1 ⟨rfl, hb1⟩)
  have hK := (HA.out.keep hb1)
  have hB := below_chain HB0.out hb1 HB0.out.size
  clear hb1 HA HN HB0 HAT n0 n1
  have hK0 : RAt w1.drew p (.slice (some ⟨g1, 0, none⟩) l.length cap1) (.slice (some ⟨g2, 0, none⟩) l.length cap2) l tk := ⟨hK.hd, hK.rs, hK.ws⟩
  by_cases hq1 : cap1 = n + 1
  · subst hq1
    have HL1 := hid (show l.length = n + 1 by omega)
    replace hc1 := hid hc1
    obtain ⟨v5, W2, a6, c6, W3, hr1, hr2, hO3, hB2, hB3, hge⟩ := rebuild (it := it) Try.underlying46 hit hzi hszi hbyi rfl (by decide) (by decide) hK0.rs (one_refs l) hlt hn ⟨g1, 0, none⟩ (adr_end (by rw [refsOf_len, HL1.out]))
    try rw [Nat.sub_self] at hr2
    have hp1 : (w1.drew.alloc (.cells #[] 30)).heap[p]? = _ := blk_alloc hK0.hd
    have hp2 := blk_below hK0.hd hB2 hK0.lt
    have hp3 := blk_below hK0.hd hB3 hK0.lt
    have hp4 : (W3.setCell ⟨p, 0, none⟩ (.slice a6 (l.length - 1) c6)).heap[p]? = some (.cells #[(.slice a6 (l.length - 1) c6), (.slice (some ⟨g2, 0, none⟩) l.length cap2), .int .i64 tk] 49 (0, 0)) := (heap_set hp3).trans (by simp)
    have hrs4 : (W3.setCell ⟨p, 0, none⟩ (.slice a6 (l.length - 1) c6)).ownsRow 0 30 2 (.slice a6 (l.length - 1) c6) (l.length - 1) (refsOf (l.eraseIdx n)) := by
      rw [refs_erase]
      exact own_same hO3 fun k hk => Below.heap_setCell _ _ _ _ (by have := hge k hk; have := hK0.lt; simp; omega)
    have hws4 : (W3.setCell ⟨p, 0, none⟩ (.slice a6 (l.length - 1) c6)).ownsRow 0 24 1 (.slice (some ⟨g2, 0, none⟩) l.length cap2) l.length (wordsOf l) := own_same (World.ownsRow.kept hK0.ws (grown_bel hB3) (Classical.em _)) fun k hk => Below.heap_setCell _ _ _ _ (own_ty hK0.ws hK0.hd (by decide) k hk)
    have hM4 : Mod (· = p) w1 (W3.setCell ⟨p, 0, none⟩ (.slice a6 (l.length - 1) c6)) := Mod.setCell (S := (· = p)) (p := ⟨p, 0, none⟩) (Mod.ofBelow (S := (· = p)) (a := w1) ⟨hB3.os, hB3.tape, hB3.output, hB3.size, hB3.block⟩) (.inl rfl) _
    have HP0 := hid hK0.hd
    have HR1 := hid hr1
    have HR2 := hid hr2
    have HP1 := hid hp1
    have HP2 := hid hp2
    have HP3 := hid hp3
    have HP4 := hid hp4
    have HRS4 := hid hrs4
    have HWS4 := hid hws4
    have HM4 := hid hM4
    have HGE := hid (fun k hk => Nat.le_trans hB.size (hge k hk))
    have HBB := hid hB
    clear hr1 hr2 hp1 hp2 hp3 hp4 hO3 hB2 hB3 hge hK hK0 hrs4 hws4 hM4 hB
    go_wp2_with fail
    refine wp_region_seqC 20 (Turn4 1 8 16 19 (fun b1 b2 b3 b4 w2 => GoneMid (w1.drew) ((w1.drew).alloc (.cells #[] 30)) W2 W3 (W3.setCell ⟨p, 0, none⟩ (.slice a6 (l.length - 1) c6)) p ((.cells #[(.slice (some ⟨g1, 0, none⟩) l.length (n + 1)), (.slice (some ⟨g2, 0, none⟩) l.length cap2), .int .i64 tk] 49 (0, 0))) ((.cells #[(.slice a6 (l.length - 1) c6), (.slice (some ⟨g2, 0, none⟩) l.length cap2), .int .i64 tk] 49 (0, 0))) b1 b2 b3 b4 w2)) (by kernel_rfl) (by kernel_rfl) (by kernel_rfl) (Turn4.start ⟨rfl, HP0.out⟩) ?_
    dsimp only [List.take]
    refine Seq4.calm (a' := ?_) (by decide) (by decide) (by decide) (by decide) ?_ ?_ ?_
    rotate_left
    ·
      intro b1 b2 b3 b4 w1 e1 f1 e2 f2 e3 f3 e4 f4 hw1
      obtain rfl := e4 (by kernel_rfl)
      have HW1 := hid hw1
      have c0 := cell_of hw1.hd 0
      have c1 := cell_of hw1.hd 1
      clear hw1 e1 f1 e2 f2 e3 f3 e4 f4
      go_wp2_with fail
      refine ⟨?_, HW1.out⟩
      exact rfl
    · kernel_rfl
    refine Seq4.at1 (a' := ?_) (by decide) (by decide) (by decide) ?_ ?_ ?_
    rotate_left
    ·
      intro b2 b3 b4 w2 e2 f2 e3 f3 e4 f4 hw1
      obtain rfl := e2 (by kernel_rfl)
      obtain rfl := e3 (by kernel_rfl)
      obtain rfl := e4 (by kernel_rfl)
      obtain rfl : w2 = w1.drew := hw1.pin
      clear hw1 e2 f2 e3 f3 e4 f4
      go_wp2_with fail
      refine ⟨?_, rfl, HP1.out⟩
      exact rfl
    · kernel_rfl
    iterate 6
      refine Seq4.calm (a' := ?_) (by decide) (by decide) (by decide) (by decide) ?_ ?_ ?_
      rotate_left
      ·
        intro b1 b2 b3 b4 w1 e1 f1 e2 f2 e3 f3 e4 f4 hw1
        obtain rfl := e4 (by kernel_rfl)
        have HW1 := hid hw1
        have c0 := cell_of hw1.hd 0
        have c1 := cell_of hw1.hd 1
        clear hw1 e1 f1 e2 f2 e3 f3 e4 f4
        go_wp2_with fail
        refine ⟨?_, HW1.out⟩
        exact rfl
      · kernel_rfl
    refine Seq4.at2 (a' := ?_) (by decide) (by decide) (by decide) ?_ ?_ ?_
    rotate_left
    ·
      intro b1 b3 b4 w2 e1 f1 e3 f3 e4 f4 hw1
      obtain rfl := f1 (by kernel_rfl)
      obtain rfl := e3 (by kernel_rfl)
      obtain rfl := e4 (by kernel_rfl)
      obtain rfl : w2 = (w1.drew).alloc (.cells #[] 30) := hw1.pin
      clear hw1 e1 f1 e3 f3 e4 f4
      refine wpList_append_run rfl _ _ _ rfl _ _ _ W2 rfl rfl HR1.out ?_
      refine ⟨?_, rfl, HP2.out⟩
      exact rfl
    · kernel_rfl
    iterate 7
      refine Seq4.calm (a' := ?_) (by decide) (by decide) (by decide) (by decide) ?_ ?_ ?_
      rotate_left
      ·
        intro b1 b2 b3 b4 w1 e1 f1 e2 f2 e3 f3 e4 f4 hw1
        obtain rfl := e4 (by kernel_rfl)
        have HW1 := hid hw1
        have c0 := cell_of hw1.hd 0
        have c1 := cell_of hw1.hd 1
        clear hw1 e1 f1 e2 f2 e3 f3 e4 f4
        go_wp2_with fail
        refine ⟨?_, HW1.out⟩
        exact rfl
      · kernel_rfl
    refine Seq4.at3 (a' := ?_) (by decide) (by decide) (by decide) ?_ ?_ ?_
    rotate_left
    ·
      intro b1 b2 b4 w2 e1 f1 e2 f2 e4 f4 hw1
      obtain rfl := f1 (by kernel_rfl)
      obtain rfl := f2 (by kernel_rfl)
      obtain rfl := e4 (by kernel_rfl)
      obtain rfl : w2 = W2 := hw1.pin
      clear hw1 e1 f1 e2 f2 e4 f4
      refine wpList_append_run rfl _ _ _ rfl _ _ _ W3 rfl rfl HR2.out ?_
      refine ⟨?_, rfl, HP3.out⟩
      exact rfl
    · kernel_rfl
    iterate 2
      refine Seq4.calm (a' := ?_) (by decide) (by decide) (by decide) (by decide) ?_ ?_ ?_
      rotate_left
      ·
        intro b1 b2 b3 b4 w1 e1 f1 e2 f2 e3 f3 e4 f4 hw1
        obtain rfl := e4 (by kernel_rfl)
        have HW1 := hid hw1
        have c0 := cell_of hw1.hd 0
        have c1 := cell_of hw1.hd 1
        clear hw1 e1 f1 e2 f2 e3 f3 e4 f4
        go_wp2_with fail
        refine ⟨?_, HW1.out⟩
        exact rfl
      · kernel_rfl
    refine Seq4.at4 (a' := ?_) (by decide) (by decide) (by decide) ?_ ?_ ?_
    rotate_left
    ·
      intro b1 b2 b3 w2 e1 f1 e2 f2 e3 f3 hw1
      obtain rfl := f1 (by kernel_rfl)
      obtain rfl := f2 (by kernel_rfl)
      obtain rfl := f3 (by kernel_rfl)
      obtain rfl : w2 = W3 := hw1.pin
      have c0 := cell_of hw1.hd 0
      have c1 := cell_of hw1.hd 1
      have cf := free_of hw1.hd
      clear hw1 e1 f1 e2 f2 e3 f3
      go_wp2_with fail
      refine ⟨?_, rfl, HP4.out⟩
      exact rfl
    · kernel_rfl
    refine SeqC.nil ?_
    intro D w2 hD hI
    replace hI := hI.done (hD 1 (by omega)) (hD 8 (by omega)) (hD 16 (by omega)) (hD 19 (by omega))
    obtain rfl : w2 = W3.setCell ⟨p, 0, none⟩ (.slice a6 (l.length - 1) c6) := hI.pin
    clear hD hI
    dsimp only [List.drop]
    clear HR1 HR2 HP0 HP1 HP2 HP3
    generalize W3.setCell ⟨p, 0, none⟩ (.slice a6 (l.length - 1) c6) = W4 at *
    clear hc1 hc1'
    by_cases hq2 : cap2 = n + 1
    · subst hq2
      have HL := hid (show l.length = n + 1 by omega)
      clear hc2
      have hws0 : W4.drew.ownsRow 0 24 1 (.slice (some ⟨g2, 0, none⟩) l.length (n + 1)) l.length (wordsOf l) := HWS4.out
      have hd0 : W4.drew.heap[p]? = some (.cells #[(.slice a6 (l.length - 1) c6), (.slice (some ⟨g2, 0, none⟩) l.length (n + 1)), .int .i64 tk] 49 (0, 0)) := HP4.out
      have hpl4 : p < W4.drew.heap.size := lt_of_block hd0
      have hrl4 : ∀ k, (Value.slice a6 (l.length - 1) c6).ownBlock = some k → k < W4.drew.heap.size := fun k hk => (World.ownsRow.lt HRS4.out k hk).2
      obtain ⟨v5, W2, a7, c7, W3, hr1, hr2, hO3, hB2, hB3, hge⟩ := rebuild (it := iw) Try.underlying47 hiw hzw hszw hbyw rfl (by decide) (by decide) hws0 (one_words l) hlt hn ⟨g2, 0, none⟩ (adr_end (by simp [wordsOf, HL.out]))
      try rw [Nat.sub_self] at hr2
      have hp1 : (W4.drew.alloc (.cells #[] 24)).heap[p]? = _ := blk_alloc hd0
      have hp2 := blk_below hd0 hB2 hpl4
      have hp3 := blk_below hd0 hB3 hpl4
      have hp4 : (W3.setCell ⟨p, 1, none⟩ (.slice a7 (l.length - 1) c7)).heap[p]? = some (.cells #[(.slice a6 (l.length - 1) c6), (.slice a7 (l.length - 1) c7), .int .i64 tk] 49 (0, 0)) := (heap_set hp3).trans (by simp)
      have hfin : RAt (W3.setCell ⟨p, 1, none⟩ (.slice a7 (l.length - 1) c7)) p (.slice a6 (l.length - 1) c6) (.slice a7 (l.length - 1) c7) (l.eraseIdx n) tk := by
        have hl1 : (l.eraseIdx n).length = l.length - 1 := List.length_eraseIdx_of_lt hlt
        refine ⟨hp4, ?_, ?_⟩
        · rw [hl1]
          exact own_same (World.ownsRow.kept (w := W4.drew) HRS4.out (grown_bel hB3) (Classical.em _)) fun k hk => Below.heap_setCell _ _ _ _ (own_ty HRS4.out HP4.out (by decide) k hk)
        · rw [hl1, words_erase]
          exact own_same hO3 fun k hk => Below.heap_setCell _ _ _ _ (by have := hge k hk; simp; omega)
      have hM7 : Mod (· = p) w1 (W3.setCell ⟨p, 1, none⟩ (.slice a7 (l.length - 1) c7)) := Mod.setCell (S := (· = p)) (p := ⟨p, 1, none⟩) (HM4.out.trans (S' := fun _ => False) (Mod.ofBelow (S := fun _ => False) (a := W4) ⟨hB3.os, hB3.tape, hB3.output, hB3.size, hB3.block⟩) (fun _ _ h => h.elim)) (.inl rfl) _
      have hsz4 : w1.heap.size ≤ W4.heap.size := HM4.out.size
      have HP0 := hid hd0
      have HR1 := hid hr1
      have HR2 := hid hr2
      have HP1 := hid hp1
      have HP2 := hid hp2
      have HP3 := hid hp3
      have HP5 := hid hp4
      have HFIN := hid hfin
      have HM7 := hid hM7
      have HGE7 := hid (fun k hk => Nat.le_trans HBB.out.size (Nat.le_trans hsz4 (hge k hk)))
      clear hr1 hr2 hp1 hp2 hp3 hp4 hO3 hB2 hB3 hge hfin hM7 HRS4 HWS4 HM4 HP4 hws0 hd0
      have HP4 := HP5
      clear HP5
      go_wp2_with fail
      refine wp_region_seqC 20 (Turn4 1 8 16 19 (fun b1 b2 b3 b4 w2 => GoneMid (W4.drew) ((W4.drew).alloc (.cells #[] 24)) W2 W3 (W3.setCell ⟨p, 1, none⟩ (.slice a7 (l.length - 1) c7)) p ((.cells #[(.slice a6 (l.length - 1) c6), (.slice (some ⟨g2, 0, none⟩) l.length (n + 1)), .int .i64 tk] 49 (0, 0))) ((.cells #[(.slice a6 (l.length - 1) c6), (.slice a7 (l.length - 1) c7), .int .i64 tk] 49 (0, 0))) b1 b2 b3 b4 w2)) (by kernel_rfl) (by kernel_rfl) (by kernel_rfl) (Turn4.start ⟨rfl, HP0.out⟩) ?_
      dsimp only [List.take]
      refine Seq4.calm (a' := ?_) (by decide) (by decide) (by decide) (by decide) ?_ ?_ ?_
      rotate_left
      ·
        intro b1 b2 b3 b4 w1 e1 f1 e2 f2 e3 f3 e4 f4 hw1
        obtain rfl := e4 (by kernel_rfl)
        have HW1 := hid hw1
        have c0 := cell_of hw1.hd 0
        have c1 := cell_of hw1.hd 1
        clear hw1 e1 f1 e2 f2 e3 f3 e4 f4
        go_wp2_with fail
        refine ⟨?_, HW1.out⟩
        exact rfl
      · kernel_rfl
      refine Seq4.at1 (a' := ?_) (by decide) (by decide) (by decide) ?_ ?_ ?_
      rotate_left
      ·
        intro b2 b3 b4 w2 e2 f2 e3 f3 e4 f4 hw1
        obtain rfl := e2 (by kernel_rfl)
        obtain rfl := e3 (by kernel_rfl)
        obtain rfl := e4 (by kernel_rfl)
        obtain rfl : w2 = W4.drew := hw1.pin
        clear hw1 e2 f2 e3 f3 e4 f4
        go_wp2_with fail
        refine ⟨?_, rfl, HP1.out⟩
        exact rfl
      · kernel_rfl
      iterate 6
        refine Seq4.calm (a' := ?_) (by decide) (by decide) (by decide) (by decide) ?_ ?_ ?_
        rotate_left
        ·
          intro b1 b2 b3 b4 w1 e1 f1 e2 f2 e3 f3 e4 f4 hw1
          obtain rfl := e4 (by kernel_rfl)
          have HW1 := hid hw1
          have c0 := cell_of hw1.hd 0
          have c1 := cell_of hw1.hd 1
          clear hw1 e1 f1 e2 f2 e3 f3 e4 f4
          go_wp2_with fail
          refine ⟨?_, HW1.out⟩
          exact rfl
        · kernel_rfl
      refine Seq4.at2 (a' := ?_) (by decide) (by decide) (by decide) ?_ ?_ ?_
      rotate_left
      ·
        intro b1 b3 b4 w2 e1 f1 e3 f3 e4 f4 hw1
        obtain rfl := f1 (by kernel_rfl)
        obtain rfl := e3 (by kernel_rfl)
        obtain rfl := e4 (by kernel_rfl)
        obtain rfl : w2 = (W4.drew).alloc (.cells #[] 24) := hw1.pin
        clear hw1 e1 f1 e3 f3 e4 f4
        refine wpList_append_run rfl _ _ _ rfl _ _ _ W2 rfl rfl HR1.out ?_
        refine ⟨?_, rfl, HP2.out⟩
        exact rfl
      · kernel_rfl
      iterate 7
        refine Seq4.calm (a' := ?_) (by decide) (by decide) (by decide) (by decide) ?_ ?_ ?_
        rotate_left
        ·
          intro b1 b2 b3 b4 w1 e1 f1 e2 f2 e3 f3 e4 f4 hw1
          obtain rfl := e4 (by kernel_rfl)
          have HW1 := hid hw1
          have c0 := cell_of hw1.hd 0
          have c1 := cell_of hw1.hd 1
          clear hw1 e1 f1 e2 f2 e3 f3 e4 f4
          go_wp2_with fail
          refine ⟨?_, HW1.out⟩
          exact rfl
        · kernel_rfl
      refine Seq4.at3 (a' := ?_) (by decide) (by decide) (by decide) ?_ ?_ ?_
      rotate_left
      ·
        intro b1 b2 b4 w2 e1 f1 e2 f2 e4 f4 hw1
        obtain rfl := f1 (by kernel_rfl)
        obtain rfl := f2 (by kernel_rfl)
        obtain rfl := e4 (by kernel_rfl)
        obtain rfl : w2 = W2 := hw1.pin
        clear hw1 e1 f1 e2 f2 e4 f4
        refine wpList_append_run rfl _ _ _ rfl _ _ _ W3 rfl rfl HR2.out ?_
        refine ⟨?_, rfl, HP3.out⟩
        exact rfl
      · kernel_rfl
      iterate 2
        refine Seq4.calm (a' := ?_) (by decide) (by decide) (by decide) (by decide) ?_ ?_ ?_
        rotate_left
        ·
          intro b1 b2 b3 b4 w1 e1 f1 e2 f2 e3 f3 e4 f4 hw1
          obtain rfl := e4 (by kernel_rfl)
          have HW1 := hid hw1
          have c0 := cell_of hw1.hd 0
          have c1 := cell_of hw1.hd 1
          clear hw1 e1 f1 e2 f2 e3 f3 e4 f4
          go_wp2_with fail
          refine ⟨?_, HW1.out⟩
          exact rfl
        · kernel_rfl
      refine Seq4.at4 (a' := ?_) (by decide) (by decide) (by decide) ?_ ?_ ?_
      rotate_left
      ·
        intro b1 b2 b3 w2 e1 f1 e2 f2 e3 f3 hw1
        obtain rfl := f1 (by kernel_rfl)
        obtain rfl := f2 (by kernel_rfl)
        obtain rfl := f3 (by kernel_rfl)
        obtain rfl : w2 = W3 := hw1.pin
        have c0 := cell_of hw1.hd 0
        have c1 := cell_of hw1.hd 1
        have cf := free_of hw1.hd
        clear hw1 e1 f1 e2 f2 e3 f3
        go_wp2_with fail
        refine ⟨?_, rfl, HP4.out⟩
        exact rfl
      · kernel_rfl
      refine SeqC.nil ?_
      intro D w2 hD hI
      replace hI := hI.done (hD 1 (by omega)) (hD 8 (by omega)) (hD 16 (by omega)) (hD 19 (by omega))
      obtain rfl : w2 = W3.setCell ⟨p, 1, none⟩ (.slice a7 (l.length - 1) c7) := hI.pin
      clear hD hI
      dsimp only [List.drop]
      clear HR1 HR2 HP0 HP1 HP2 HP3 HP4
      go_wp2_with fail
      go_ret
      exact ⟨_, _, rfl, HFIN.out, (Mod.ofBelow (S := ROwn p (.slice (some ⟨g1, 0, none⟩) l.length (n + 1)) (.slice (some ⟨g2, 0, none⟩) l.length (n + 1))) HBB.out).trans HM7.out (fun _ _ h => .inl h), fun k hk => .inr (HGE.out k hk), fun k hk => .inr (HGE7.out k hk)⟩
    · have hws0 : W4.drew.ownsRow 0 24 1 (.slice (some ⟨g2, 0, none⟩) l.length cap2) l.length (wordsOf l) := HWS4.out
      have hd0 : W4.drew.heap[p]? = some (.cells #[(.slice a6 (l.length - 1) c6), (.slice (some ⟨g2, 0, none⟩) l.length cap2), .int .i64 tk] 49 (0, 0)) := HP4.out
      have hpl4 : p < W4.drew.heap.size := lt_of_block hd0
      have hrl4 : ∀ k, (Value.slice a6 (l.length - 1) c6).ownBlock = some k → k < W4.drew.heap.size := fun k hk => (World.ownsRow.lt HRS4.out k hk).2
      obtain ⟨v5, W2, a7, c7, W3, hr1, hr2, hO3, hB2, hB3, hge⟩ := rebuild (it := iw) Try.underlying47 hiw hzw hszw hbyw rfl (by decide) (by decide) hws0 (one_words l) hlt hn ⟨g2, n + 1, none⟩ (adr_one)
      try rw [Nat.sub_self] at hr2
      have hp1 : (W4.drew.alloc (.cells #[] 24)).heap[p]? = _ := blk_alloc hd0
      have hp2 := blk_below hd0 hB2 hpl4
      have hp3 := blk_below hd0 hB3 hpl4
      have hp4 : (W3.setCell ⟨p, 1, none⟩ (.slice a7 (l.length - 1) c7)).heap[p]? = some (.cells #[(.slice a6 (l.length - 1) c6), (.slice a7 (l.length - 1) c7), .int .i64 tk] 49 (0, 0)) := (heap_set hp3).trans (by simp)
      have hfin : RAt (W3.setCell ⟨p, 1, none⟩ (.slice a7 (l.length - 1) c7)) p (.slice a6 (l.length - 1) c6) (.slice a7 (l.length - 1) c7) (l.eraseIdx n) tk := by
        have hl1 : (l.eraseIdx n).length = l.length - 1 := List.length_eraseIdx_of_lt hlt
        refine ⟨hp4, ?_, ?_⟩
        · rw [hl1]
          exact own_same (World.ownsRow.kept (w := W4.drew) HRS4.out (grown_bel hB3) (Classical.em _)) fun k hk => Below.heap_setCell _ _ _ _ (own_ty HRS4.out HP4.out (by decide) k hk)
        · rw [hl1, words_erase]
          exact own_same hO3 fun k hk => Below.heap_setCell _ _ _ _ (by have := hge k hk; simp; omega)
      have hM7 : Mod (· = p) w1 (W3.setCell ⟨p, 1, none⟩ (.slice a7 (l.length - 1) c7)) := Mod.setCell (S := (· = p)) (p := ⟨p, 1, none⟩) (HM4.out.trans (S' := fun _ => False) (Mod.ofBelow (S := fun _ => False) (a := W4) ⟨hB3.os, hB3.tape, hB3.output, hB3.size, hB3.block⟩) (fun _ _ h => h.elim)) (.inl rfl) _
      have hsz4 : w1.heap.size ≤ W4.heap.size := HM4.out.size
      have HP0 := hid hd0
      have HR1 := hid hr1
      have HR2 := hid hr2
      have HP1 := hid hp1
      have HP2 := hid hp2
      have HP3 := hid hp3
      have HP5 := hid hp4
      have HFIN := hid hfin
      have HM7 := hid hM7
      have HGE7 := hid (fun k hk => Nat.le_trans HBB.out.size (Nat.le_trans hsz4 (hge k hk)))
      clear hr1 hr2 hp1 hp2 hp3 hp4 hO3 hB2 hB3 hge hfin hM7 HRS4 HWS4 HM4 HP4 hws0 hd0
      have HP4 := HP5
      clear HP5
      go_wp2_with fail
      refine wp_region_seqC 20 (Turn4 1 8 16 19 (fun b1 b2 b3 b4 w2 => GoneMid (W4.drew) ((W4.drew).alloc (.cells #[] 24)) W2 W3 (W3.setCell ⟨p, 1, none⟩ (.slice a7 (l.length - 1) c7)) p ((.cells #[(.slice a6 (l.length - 1) c6), (.slice (some ⟨g2, 0, none⟩) l.length cap2), .int .i64 tk] 49 (0, 0))) ((.cells #[(.slice a6 (l.length - 1) c6), (.slice a7 (l.length - 1) c7), .int .i64 tk] 49 (0, 0))) b1 b2 b3 b4 w2)) (by kernel_rfl) (by kernel_rfl) (by kernel_rfl) (Turn4.start ⟨rfl, HP0.out⟩) ?_
      dsimp only [List.take]
      refine Seq4.calm (a' := ?_) (by decide) (by decide) (by decide) (by decide) ?_ ?_ ?_
      rotate_left
      ·
        intro b1 b2 b3 b4 w1 e1 f1 e2 f2 e3 f3 e4 f4 hw1
        obtain rfl := e4 (by kernel_rfl)
        have HW1 := hid hw1
        have c0 := cell_of hw1.hd 0
        have c1 := cell_of hw1.hd 1
        clear hw1 e1 f1 e2 f2 e3 f3 e4 f4
        go_wp2_with fail
        refine ⟨?_, HW1.out⟩
        exact rfl
      · kernel_rfl
      refine Seq4.at1 (a' := ?_) (by decide) (by decide) (by decide) ?_ ?_ ?_
      rotate_left
      ·
        intro b2 b3 b4 w2 e2 f2 e3 f3 e4 f4 hw1
        obtain rfl := e2 (by kernel_rfl)
        obtain rfl := e3 (by kernel_rfl)
        obtain rfl := e4 (by kernel_rfl)
        obtain rfl : w2 = W4.drew := hw1.pin
        clear hw1 e2 f2 e3 f3 e4 f4
        go_wp2_with fail
        refine ⟨?_, rfl, HP1.out⟩
        exact rfl
      · kernel_rfl
      iterate 6
        refine Seq4.calm (a' := ?_) (by decide) (by decide) (by decide) (by decide) ?_ ?_ ?_
        rotate_left
        ·
          intro b1 b2 b3 b4 w1 e1 f1 e2 f2 e3 f3 e4 f4 hw1
          obtain rfl := e4 (by kernel_rfl)
          have HW1 := hid hw1
          have c0 := cell_of hw1.hd 0
          have c1 := cell_of hw1.hd 1
          clear hw1 e1 f1 e2 f2 e3 f3 e4 f4
          go_wp2_with fail
          refine ⟨?_, HW1.out⟩
          exact rfl
        · kernel_rfl
      refine Seq4.at2 (a' := ?_) (by decide) (by decide) (by decide) ?_ ?_ ?_
      rotate_left
      ·
        intro b1 b3 b4 w2 e1 f1 e3 f3 e4 f4 hw1
        obtain rfl := f1 (by kernel_rfl)
        obtain rfl := e3 (by kernel_rfl)
        obtain rfl := e4 (by kernel_rfl)
        obtain rfl : w2 = (W4.drew).alloc (.cells #[] 24) := hw1.pin
        clear hw1 e1 f1 e3 f3 e4 f4
        refine wpList_append_run rfl _ _ _ rfl _ _ _ W2 rfl rfl HR1.out ?_
        refine ⟨?_, rfl, HP2.out⟩
        exact rfl
      · kernel_rfl
      iterate 7
        refine Seq4.calm (a' := ?_) (by decide) (by decide) (by decide) (by decide) ?_ ?_ ?_
        rotate_left
        ·
          intro b1 b2 b3 b4 w1 e1 f1 e2 f2 e3 f3 e4 f4 hw1
          obtain rfl := e4 (by kernel_rfl)
          have HW1 := hid hw1
          have c0 := cell_of hw1.hd 0
          have c1 := cell_of hw1.hd 1
          clear hw1 e1 f1 e2 f2 e3 f3 e4 f4
          go_wp2_with fail
          refine ⟨?_, HW1.out⟩
          exact rfl
        · kernel_rfl
      refine Seq4.at3 (a' := ?_) (by decide) (by decide) (by decide) ?_ ?_ ?_
      rotate_left
      ·
        intro b1 b2 b4 w2 e1 f1 e2 f2 e4 f4 hw1
        obtain rfl := f1 (by kernel_rfl)
        obtain rfl := f2 (by kernel_rfl)
        obtain rfl := e4 (by kernel_rfl)
        obtain rfl : w2 = W2 := hw1.pin
        clear hw1 e1 f1 e2 f2 e4 f4
        refine wpList_append_run rfl _ _ _ rfl _ _ _ W3 rfl rfl HR2.out ?_
        refine ⟨?_, rfl, HP3.out⟩
        exact rfl
      · kernel_rfl
      iterate 2
        refine Seq4.calm (a' := ?_) (by decide) (by decide) (by decide) (by decide) ?_ ?_ ?_
        rotate_left
        ·
          intro b1 b2 b3 b4 w1 e1 f1 e2 f2 e3 f3 e4 f4 hw1
          obtain rfl := e4 (by kernel_rfl)
          have HW1 := hid hw1
          have c0 := cell_of hw1.hd 0
          have c1 := cell_of hw1.hd 1
          clear hw1 e1 f1 e2 f2 e3 f3 e4 f4
          go_wp2_with fail
          refine ⟨?_, HW1.out⟩
          exact rfl
        · kernel_rfl
      refine Seq4.at4 (a' := ?_) (by decide) (by decide) (by decide) ?_ ?_ ?_
      rotate_left
      ·
        intro b1 b2 b3 w2 e1 f1 e2 f2 e3 f3 hw1
        obtain rfl := f1 (by kernel_rfl)
        obtain rfl := f2 (by kernel_rfl)
        obtain rfl := f3 (by kernel_rfl)
        obtain rfl : w2 = W3 := hw1.pin
        have c0 := cell_of hw1.hd 0
        have c1 := cell_of hw1.hd 1
        have cf := free_of hw1.hd
        clear hw1 e1 f1 e2 f2 e3 f3
        go_wp2_with fail
        refine ⟨?_, rfl, HP4.out⟩
        exact rfl
      · kernel_rfl
      refine SeqC.nil ?_
      intro D w2 hD hI
      replace hI := hI.done (hD 1 (by omega)) (hD 8 (by omega)) (hD 16 (by omega)) (hD 19 (by omega))
      obtain rfl : w2 = W3.setCell ⟨p, 1, none⟩ (.slice a7 (l.length - 1) c7) := hI.pin
      clear hD hI
      dsimp only [List.drop]
      clear HR1 HR2 HP0 HP1 HP2 HP3 HP4
      go_wp2_with fail
      go_ret
      exact ⟨_, _, rfl, HFIN.out, (Mod.ofBelow (S := ROwn p (.slice (some ⟨g1, 0, none⟩) l.length (n + 1)) (.slice (some ⟨g2, 0, none⟩) l.length cap2)) HBB.out).trans HM7.out (fun _ _ h => .inl h), fun k hk => .inr (HGE.out k hk), fun k hk => .inr (HGE7.out k hk)⟩
  · obtain ⟨v5, W2, a6, c6, W3, hr1, hr2, hO3, hB2, hB3, hge⟩ := rebuild (it := it) Try.underlying46 hit hzi hszi hbyi rfl (by decide) (by decide) hK0.rs (one_refs l) hlt hn ⟨g1, (n + 1) * 2, none⟩ (adr_far)
    try rw [Nat.sub_self] at hr2
    have hp1 : (w1.drew.alloc (.cells #[] 30)).heap[p]? = _ := blk_alloc hK0.hd
    have hp2 := blk_below hK0.hd hB2 hK0.lt
    have hp3 := blk_below hK0.hd hB3 hK0.lt
    have hp4 : (W3.setCell ⟨p, 0, none⟩ (.slice a6 (l.length - 1) c6)).heap[p]? = some (.cells #[(.slice a6 (l.length - 1) c6), (.slice (some ⟨g2, 0, none⟩) l.length cap2), .int .i64 tk] 49 (0, 0)) := (heap_set hp3).trans (by simp)
    have hrs4 : (W3.setCell ⟨p, 0, none⟩ (.slice a6 (l.length - 1) c6)).ownsRow 0 30 2 (.slice a6 (l.length - 1) c6) (l.length - 1) (refsOf (l.eraseIdx n)) := by
      rw [refs_erase]
      exact own_same hO3 fun k hk => Below.heap_setCell _ _ _ _ (by have := hge k hk; have := hK0.lt; simp; omega)
    have hws4 : (W3.setCell ⟨p, 0, none⟩ (.slice a6 (l.length - 1) c6)).ownsRow 0 24 1 (.slice (some ⟨g2, 0, none⟩) l.length cap2) l.length (wordsOf l) := own_same (World.ownsRow.kept hK0.ws (grown_bel hB3) (Classical.em _)) fun k hk => Below.heap_setCell _ _ _ _ (own_ty hK0.ws hK0.hd (by decide) k hk)
    have hM4 : Mod (· = p) w1 (W3.setCell ⟨p, 0, none⟩ (.slice a6 (l.length - 1) c6)) := Mod.setCell (S := (· = p)) (p := ⟨p, 0, none⟩) (Mod.ofBelow (S := (· = p)) (a := w1) ⟨hB3.os, hB3.tape, hB3.output, hB3.size, hB3.block⟩) (.inl rfl) _
    have HP0 := hid hK0.hd
    have HR1 := hid hr1
    have HR2 := hid hr2
    have HP1 := hid hp1
    have HP2 := hid hp2
    have HP3 := hid hp3
    have HP4 := hid hp4
    have HRS4 := hid hrs4
    have HWS4 := hid hws4
    have HM4 := hid hM4
    have HGE := hid (fun k hk => Nat.le_trans hB.size (hge k hk))
    have HBB := hid hB
    clear hr1 hr2 hp1 hp2 hp3 hp4 hO3 hB2 hB3 hge hK hK0 hrs4 hws4 hM4 hB
    go_wp2_with fail
    refine wp_region_seqC 20 (Turn4 1 8 16 19 (fun b1 b2 b3 b4 w2 => GoneMid (w1.drew) ((w1.drew).alloc (.cells #[] 30)) W2 W3 (W3.setCell ⟨p, 0, none⟩ (.slice a6 (l.length - 1) c6)) p ((.cells #[(.slice (some ⟨g1, 0, none⟩) l.length cap1), (.slice (some ⟨g2, 0, none⟩) l.length cap2), .int .i64 tk] 49 (0, 0))) ((.cells #[(.slice a6 (l.length - 1) c6), (.slice (some ⟨g2, 0, none⟩) l.length cap2), .int .i64 tk] 49 (0, 0))) b1 b2 b3 b4 w2)) (by kernel_rfl) (by kernel_rfl) (by kernel_rfl) (Turn4.start ⟨rfl, HP0.out⟩) ?_
    dsimp only [List.take]
    refine Seq4.calm (a' := ?_) (by decide) (by decide) (by decide) (by decide) ?_ ?_ ?_
    rotate_left
    ·
      intro b1 b2 b3 b4 w1 e1 f1 e2 f2 e3 f3 e4 f4 hw1
      obtain rfl := e4 (by kernel_rfl)
      have HW1 := hid hw1
      have c0 := cell_of hw1.hd 0
      have c1 := cell_of hw1.hd 1
      clear hw1 e1 f1 e2 f2 e3 f3 e4 f4
      go_wp2_with fail
      refine ⟨?_, HW1.out⟩
      exact rfl
    · kernel_rfl
    refine Seq4.at1 (a' := ?_) (by decide) (by decide) (by decide) ?_ ?_ ?_
    rotate_left
    ·
      intro b2 b3 b4 w2 e2 f2 e3 f3 e4 f4 hw1
      obtain rfl := e2 (by kernel_rfl)
      obtain rfl := e3 (by kernel_rfl)
      obtain rfl := e4 (by kernel_rfl)
      obtain rfl : w2 = w1.drew := hw1.pin
      clear hw1 e2 f2 e3 f3 e4 f4
      go_wp2_with fail
      refine ⟨?_, rfl, HP1.out⟩
      exact rfl
    · kernel_rfl
    iterate 6
      refine Seq4.calm (a' := ?_) (by decide) (by decide) (by decide) (by decide) ?_ ?_ ?_
      rotate_left
      ·
        intro b1 b2 b3 b4 w1 e1 f1 e2 f2 e3 f3 e4 f4 hw1
        obtain rfl := e4 (by kernel_rfl)
        have HW1 := hid hw1
        have c0 := cell_of hw1.hd 0
        have c1 := cell_of hw1.hd 1
        clear hw1 e1 f1 e2 f2 e3 f3 e4 f4
        go_wp2_with fail
        refine ⟨?_, HW1.out⟩
        exact rfl
      · kernel_rfl
    refine Seq4.at2 (a' := ?_) (by decide) (by decide) (by decide) ?_ ?_ ?_
    rotate_left
    ·
      intro b1 b3 b4 w2 e1 f1 e3 f3 e4 f4 hw1
      obtain rfl := f1 (by kernel_rfl)
      obtain rfl := e3 (by kernel_rfl)
      obtain rfl := e4 (by kernel_rfl)
      obtain rfl : w2 = (w1.drew).alloc (.cells #[] 30) := hw1.pin
      clear hw1 e1 f1 e3 f3 e4 f4
      refine wpList_append_run rfl _ _ _ rfl _ _ _ W2 rfl rfl HR1.out ?_
      refine ⟨?_, rfl, HP2.out⟩
      exact rfl
    · kernel_rfl
    iterate 7
      refine Seq4.calm (a' := ?_) (by decide) (by decide) (by decide) (by decide) ?_ ?_ ?_
      rotate_left
      ·
        intro b1 b2 b3 b4 w1 e1 f1 e2 f2 e3 f3 e4 f4 hw1
        obtain rfl := e4 (by kernel_rfl)
        have HW1 := hid hw1
        have c0 := cell_of hw1.hd 0
        have c1 := cell_of hw1.hd 1
        clear hw1 e1 f1 e2 f2 e3 f3 e4 f4
        go_wp2_with fail
        refine ⟨?_, HW1.out⟩
        exact rfl
      · kernel_rfl
    refine Seq4.at3 (a' := ?_) (by decide) (by decide) (by decide) ?_ ?_ ?_
    rotate_left
    ·
      intro b1 b2 b4 w2 e1 f1 e2 f2 e4 f4 hw1
      obtain rfl := f1 (by kernel_rfl)
      obtain rfl := f2 (by kernel_rfl)
      obtain rfl := e4 (by kernel_rfl)
      obtain rfl : w2 = W2 := hw1.pin
      clear hw1 e1 f1 e2 f2 e4 f4
      refine wpList_append_run rfl _ _ _ rfl _ _ _ W3 rfl rfl HR2.out ?_
      refine ⟨?_, rfl, HP3.out⟩
      exact rfl
    · kernel_rfl
    iterate 2
      refine Seq4.calm (a' := ?_) (by decide) (by decide) (by decide) (by decide) ?_ ?_ ?_
      rotate_left
      ·
        intro b1 b2 b3 b4 w1 e1 f1 e2 f2 e3 f3 e4 f4 hw1
        obtain rfl := e4 (by kernel_rfl)
        have HW1 := hid hw1
        have c0 := cell_of hw1.hd 0
        have c1 := cell_of hw1.hd 1
        clear hw1 e1 f1 e2 f2 e3 f3 e4 f4
        go_wp2_with fail
        refine ⟨?_, HW1.out⟩
        exact rfl
      · kernel_rfl
    refine Seq4.at4 (a' := ?_) (by decide) (by decide) (by decide) ?_ ?_ ?_
    rotate_left
    ·
      intro b1 b2 b3 w2 e1 f1 e2 f2 e3 f3 hw1
      obtain rfl := f1 (by kernel_rfl)
      obtain rfl := f2 (by kernel_rfl)
      obtain rfl := f3 (by kernel_rfl)
      obtain rfl : w2 = W3 := hw1.pin
      have c0 := cell_of hw1.hd 0
      have c1 := cell_of hw1.hd 1
      have cf := free_of hw1.hd
      clear hw1 e1 f1 e2 f2 e3 f3
      go_wp2_with fail
      refine ⟨?_, rfl, HP4.out⟩
      exact rfl
    · kernel_rfl
    refine SeqC.nil ?_
    intro D w2 hD hI
    replace hI := hI.done (hD 1 (by omega)) (hD 8 (by omega)) (hD 16 (by omega)) (hD 19 (by omega))
    obtain rfl : w2 = W3.setCell ⟨p, 0, none⟩ (.slice a6 (l.length - 1) c6) := hI.pin
    clear hD hI
    dsimp only [List.drop]
    clear HR1 HR2 HP0 HP1 HP2 HP3
    generalize W3.setCell ⟨p, 0, none⟩ (.slice a6 (l.length - 1) c6) = W4 at *
    clear hc1 hc1'
    by_cases hq2 : cap2 = n + 1
    · subst hq2
      have HL := hid (show l.length = n + 1 by omega)
      clear hc2
      have hws0 : W4.drew.ownsRow 0 24 1 (.slice (some ⟨g2, 0, none⟩) l.length (n + 1)) l.length (wordsOf l) := HWS4.out
      have hd0 : W4.drew.heap[p]? = some (.cells #[(.slice a6 (l.length - 1) c6), (.slice (some ⟨g2, 0, none⟩) l.length (n + 1)), .int .i64 tk] 49 (0, 0)) := HP4.out
      have hpl4 : p < W4.drew.heap.size := lt_of_block hd0
      have hrl4 : ∀ k, (Value.slice a6 (l.length - 1) c6).ownBlock = some k → k < W4.drew.heap.size := fun k hk => (World.ownsRow.lt HRS4.out k hk).2
      obtain ⟨v5, W2, a7, c7, W3, hr1, hr2, hO3, hB2, hB3, hge⟩ := rebuild (it := iw) Try.underlying47 hiw hzw hszw hbyw rfl (by decide) (by decide) hws0 (one_words l) hlt hn ⟨g2, 0, none⟩ (adr_end (by simp [wordsOf, HL.out]))
      try rw [Nat.sub_self] at hr2
      have hp1 : (W4.drew.alloc (.cells #[] 24)).heap[p]? = _ := blk_alloc hd0
      have hp2 := blk_below hd0 hB2 hpl4
      have hp3 := blk_below hd0 hB3 hpl4
      have hp4 : (W3.setCell ⟨p, 1, none⟩ (.slice a7 (l.length - 1) c7)).heap[p]? = some (.cells #[(.slice a6 (l.length - 1) c6), (.slice a7 (l.length - 1) c7), .int .i64 tk] 49 (0, 0)) := (heap_set hp3).trans (by simp)
      have hfin : RAt (W3.setCell ⟨p, 1, none⟩ (.slice a7 (l.length - 1) c7)) p (.slice a6 (l.length - 1) c6) (.slice a7 (l.length - 1) c7) (l.eraseIdx n) tk := by
        have hl1 : (l.eraseIdx n).length = l.length - 1 := List.length_eraseIdx_of_lt hlt
        refine ⟨hp4, ?_, ?_⟩
        · rw [hl1]
          exact own_same (World.ownsRow.kept (w := W4.drew) HRS4.out (grown_bel hB3) (Classical.em _)) fun k hk => Below.heap_setCell _ _ _ _ (own_ty HRS4.out HP4.out (by decide) k hk)
        · rw [hl1, words_erase]
          exact own_same hO3 fun k hk => Below.heap_setCell _ _ _ _ (by have := hge k hk; simp; omega)
      have hM7 : Mod (· = p) w1 (W3.setCell ⟨p, 1, none⟩ (.slice a7 (l.length - 1) c7)) := Mod.setCell (S := (· = p)) (p := ⟨p, 1, none⟩) (HM4.out.trans (S' := fun _ => False) (Mod.ofBelow (S := fun _ => False) (a := W4) ⟨hB3.os, hB3.tape, hB3.output, hB3.size, hB3.block⟩) (fun _ _ h => h.elim)) (.inl rfl) _
      have hsz4 : w1.heap.size ≤ W4.heap.size := HM4.out.size
      have HP0 := hid hd0
      have HR1 := hid hr1
      have HR2 := hid hr2
      have HP1 := hid hp1
      have HP2 := hid hp2
      have HP3 := hid hp3
      have HP5 := hid hp4
      have HFIN := hid hfin
      have HM7 := hid hM7
      have HGE7 := hid (fun k hk => Nat.le_trans HBB.out.size (Nat.le_trans hsz4 (hge k hk)))
      clear hr1 hr2 hp1 hp2 hp3 hp4 hO3 hB2 hB3 hge hfin hM7 HRS4 HWS4 HM4 HP4 hws0 hd0
      have HP4 := HP5
      clear HP5
      go_wp2_with fail
      refine wp_region_seqC 20 (Turn4 1 8 16 19 (fun b1 b2 b3 b4 w2 => GoneMid (W4.drew) ((W4.drew).alloc (.cells #[] 24)) W2 W3 (W3.setCell ⟨p, 1, none⟩ (.slice a7 (l.length - 1) c7)) p ((.cells #[(.slice a6 (l.length - 1) c6), (.slice (some ⟨g2, 0, none⟩) l.length (n + 1)), .int .i64 tk] 49 (0, 0))) ((.cells #[(.slice a6 (l.length - 1) c6), (.slice a7 (l.length - 1) c7), .int .i64 tk] 49 (0, 0))) b1 b2 b3 b4 w2)) (by kernel_rfl) (by kernel_rfl) (by kernel_rfl) (Turn4.start ⟨rfl, HP0.out⟩) ?_
      dsimp only [List.take]
      refine Seq4.calm (a' := ?_) (by decide) (by decide) (by decide) (by decide) ?_ ?_ ?_
      rotate_left
      ·
        intro b1 b2 b3 b4 w1 e1 f1 e2 f2 e3 f3 e4 f4 hw1
        obtain rfl := e4 (by kernel_rfl)
        have HW1 := hid hw1
        have c0 := cell_of hw1.hd 0
        have c1 := cell_of hw1.hd 1
        clear hw1 e1 f1 e2 f2 e3 f3 e4 f4
        go_wp2_with fail
        refine ⟨?_, HW1.out⟩
        exact rfl
      · kernel_rfl
      refine Seq4.at1 (a' := ?_) (by decide) (by decide) (by decide) ?_ ?_ ?_
      rotate_left
      ·
        intro b2 b3 b4 w2 e2 f2 e3 f3 e4 f4 hw1
        obtain rfl := e2 (by kernel_rfl)
        obtain rfl := e3 (by kernel_rfl)
        obtain rfl := e4 (by kernel_rfl)
        obtain rfl : w2 = W4.drew := hw1.pin
        clear hw1 e2 f2 e3 f3 e4 f4
        go_wp2_with fail
        refine ⟨?_, rfl, HP1.out⟩
        exact rfl
      · kernel_rfl
      iterate 6
        refine Seq4.calm (a' := ?_) (by decide) (by decide) (by decide) (by decide) ?_ ?_ ?_
        rotate_left
        ·
          intro b1 b2 b3 b4 w1 e1 f1 e2 f2 e3 f3 e4 f4 hw1
          obtain rfl := e4 (by kernel_rfl)
          have HW1 := hid hw1
          have c0 := cell_of hw1.hd 0
          have c1 := cell_of hw1.hd 1
          clear hw1 e1 f1 e2 f2 e3 f3 e4 f4
          go_wp2_with fail
          refine ⟨?_, HW1.out⟩
          exact rfl
        · kernel_rfl
      refine Seq4.at2 (a' := ?_) (by decide) (by decide) (by decide) ?_ ?_ ?_
      rotate_left
      ·
        intro b1 b3 b4 w2 e1 f1 e3 f3 e4 f4 hw1
        obtain rfl := f1 (by kernel_rfl)
        obtain rfl := e3 (by kernel_rfl)
        obtain rfl := e4 (by kernel_rfl)
        obtain rfl : w2 = (W4.drew).alloc (.cells #[] 24) := hw1.pin
        clear hw1 e1 f1 e3 f3 e4 f4
        refine wpList_append_run rfl _ _ _ rfl _ _ _ W2 rfl rfl HR1.out ?_
        refine ⟨?_, rfl, HP2.out⟩
        exact rfl
      · kernel_rfl
      iterate 7
        refine Seq4.calm (a' := ?_) (by decide) (by decide) (by decide) (by decide) ?_ ?_ ?_
        rotate_left
        ·
          intro b1 b2 b3 b4 w1 e1 f1 e2 f2 e3 f3 e4 f4 hw1
          obtain rfl := e4 (by kernel_rfl)
          have HW1 := hid hw1
          have c0 := cell_of hw1.hd 0
          have c1 := cell_of hw1.hd 1
          clear hw1 e1 f1 e2 f2 e3 f3 e4 f4
          go_wp2_with fail
          refine ⟨?_, HW1.out⟩
          exact rfl
        · kernel_rfl
      refine Seq4.at3 (a' := ?_) (by decide) (by decide) (by decide) ?_ ?_ ?_
      rotate_left
      ·
        intro b1 b2 b4 w2 e1 f1 e2 f2 e4 f4 hw1
        obtain rfl := f1 (by kernel_rfl)
        obtain rfl := f2 (by kernel_rfl)
        obtain rfl := e4 (by kernel_rfl)
        obtain rfl : w2 = W2 := hw1.pin
        clear hw1 e1 f1 e2 f2 e4 f4
        refine wpList_append_run rfl _ _ _ rfl _ _ _ W3 rfl rfl HR2.out ?_
        refine ⟨?_, rfl, HP3.out⟩
        exact rfl
      · kernel_rfl
      iterate 2
        refine Seq4.calm (a' := ?_) (by decide) (by decide) (by decide) (by decide) ?_ ?_ ?_
        rotate_left
        ·
          intro b1 b2 b3 b4 w1 e1 f1 e2 f2 e3 f3 e4 f4 hw1
          obtain rfl := e4 (by kernel_rfl)
          have HW1 := hid hw1
          have c0 := cell_of hw1.hd 0
          have c1 := cell_of hw1.hd 1
          clear hw1 e1 f1 e2 f2 e3 f3 e4 f4
          go_wp2_with fail
          refine ⟨?_, HW1.out⟩
          exact rfl
        · kernel_rfl
      refine Seq4.at4 (a' := ?_) (by decide) (by decide) (by decide) ?_ ?_ ?_
      rotate_left
      ·
        intro b1 b2 b3 w2 e1 f1 e2 f2 e3 f3 hw1
        obtain rfl := f1 (by kernel_rfl)
        obtain rfl := f2 (by kernel_rfl)
        obtain rfl := f3 (by kernel_rfl)
        obtain rfl : w2 = W3 := hw1.pin
        have c0 := cell_of hw1.hd 0
        have c1 := cell_of hw1.hd 1
        have cf := free_of hw1.hd
        clear hw1 e1 f1 e2 f2 e3 f3
        go_wp2_with fail
        refine ⟨?_, rfl, HP4.out⟩
        exact rfl
      · kernel_rfl
      refine SeqC.nil ?_
      intro D w2 hD hI
      replace hI := hI.done (hD 1 (by omega)) (hD 8 (by omega)) (hD 16 (by omega)) (hD 19 (by omega))
      obtain rfl : w2 = W3.setCell ⟨p, 1, none⟩ (.slice a7 (l.length - 1) c7) := hI.pin
      clear hD hI
      dsimp only [List.drop]
      clear HR1 HR2 HP0 HP1 HP2 HP3 HP4
      go_wp2_with fail
      go_ret
      exact ⟨_, _, rfl, HFIN.out, (Mod.ofBelow (S := ROwn p (.slice (some ⟨g1, 0, none⟩) l.length cap1) (.slice (some ⟨g2, 0, none⟩) l.length (n + 1))) HBB.out).trans HM7.out (fun _ _ h => .inl h), fun k hk => .inr (HGE.out k hk), fun k hk => .inr (HGE7.out k hk)⟩
    · have hws0 : W4.drew.ownsRow 0 24 1 (.slice (some ⟨g2, 0, none⟩) l.length cap2) l.length (wordsOf l) := HWS4.out
      have hd0 : W4.drew.heap[p]? = some (.cells #[(.slice a6 (l.length - 1) c6), (.slice (some ⟨g2, 0, none⟩) l.length cap2), .int .i64 tk] 49 (0, 0)) := HP4.out
      have hpl4 : p < W4.drew.heap.size := lt_of_block hd0
      have hrl4 : ∀ k, (Value.slice a6 (l.length - 1) c6).ownBlock = some k → k < W4.drew.heap.size := fun k hk => (World.ownsRow.lt HRS4.out k hk).2
      obtain ⟨v5, W2, a7, c7, W3, hr1, hr2, hO3, hB2, hB3, hge⟩ := rebuild (it := iw) Try.underlying47 hiw hzw hszw hbyw rfl (by decide) (by decide) hws0 (one_words l) hlt hn ⟨g2, n + 1, none⟩ (adr_one)
      try rw [Nat.sub_self] at hr2
      have hp1 : (W4.drew.alloc (.cells #[] 24)).heap[p]? = _ := blk_alloc hd0
      have hp2 := blk_below hd0 hB2 hpl4
      have hp3 := blk_below hd0 hB3 hpl4
      have hp4 : (W3.setCell ⟨p, 1, none⟩ (.slice a7 (l.length - 1) c7)).heap[p]? = some (.cells #[(.slice a6 (l.length - 1) c6), (.slice a7 (l.length - 1) c7), .int .i64 tk] 49 (0, 0)) := (heap_set hp3).trans (by simp)
      have hfin : RAt (W3.setCell ⟨p, 1, none⟩ (.slice a7 (l.length - 1) c7)) p (.slice a6 (l.length - 1) c6) (.slice a7 (l.length - 1) c7) (l.eraseIdx n) tk := by
        have hl1 : (l.eraseIdx n).length = l.length - 1 := List.length_eraseIdx_of_lt hlt
        refine ⟨hp4, ?_, ?_⟩
        · rw [hl1]
          exact own_same (World.ownsRow.kept (w := W4.drew) HRS4.out (grown_bel hB3) (Classical.em _)) fun k hk => Below.heap_setCell _ _ _ _ (own_ty HRS4.out HP4.out (by decide) k hk)
        · rw [hl1, words_erase]
          exact own_same hO3 fun k hk => Below.heap_setCell _ _ _ _ (by have := hge k hk; simp; omega)
      have hM7 : Mod (· = p) w1 (W3.setCell ⟨p, 1, none⟩ (.slice a7 (l.length - 1) c7)) := Mod.setCell (S := (· = p)) (p := ⟨p, 1, none⟩) (HM4.out.trans (S' := fun _ => False) (Mod.ofBelow (S := fun _ => False) (a := W4) ⟨hB3.os, hB3.tape, hB3.output, hB3.size, hB3.block⟩) (fun _ _ h => h.elim)) (.inl rfl) _
      have hsz4 : w1.heap.size ≤ W4.heap.size := HM4.out.size
      have HP0 := hid hd0
      have HR1 := hid hr1
      have HR2 := hid hr2
      have HP1 := hid hp1
      have HP2 := hid hp2
      have HP3 := hid hp3
      have HP5 := hid hp4
      have HFIN := hid hfin
      have HM7 := hid hM7
      have HGE7 := hid (fun k hk => Nat.le_trans HBB.out.size (Nat.le_trans hsz4 (hge k hk)))
      clear hr1 hr2 hp1 hp2 hp3 hp4 hO3 hB2 hB3 hge hfin hM7 HRS4 HWS4 HM4 HP4 hws0 hd0
      have HP4 := HP5
      clear HP5
      go_wp2_with fail
      refine wp_region_seqC 20 (Turn4 1 8 16 19 (fun b1 b2 b3 b4 w2 => GoneMid (W4.drew) ((W4.drew).alloc (.cells #[] 24)) W2 W3 (W3.setCell ⟨p, 1, none⟩ (.slice a7 (l.length - 1) c7)) p ((.cells #[(.slice a6 (l.length - 1) c6), (.slice (some ⟨g2, 0, none⟩) l.length cap2), .int .i64 tk] 49 (0, 0))) ((.cells #[(.slice a6 (l.length - 1) c6), (.slice a7 (l.length - 1) c7), .int .i64 tk] 49 (0, 0))) b1 b2 b3 b4 w2)) (by kernel_rfl) (by kernel_rfl) (by kernel_rfl) (Turn4.start ⟨rfl, HP0.out⟩) ?_
      dsimp only [List.take]
      refine Seq4.calm (a' := ?_) (by decide) (by decide) (by decide) (by decide) ?_ ?_ ?_
      rotate_left
      ·
        intro b1 b2 b3 b4 w1 e1 f1 e2 f2 e3 f3 e4 f4 hw1
        obtain rfl := e4 (by kernel_rfl)
        have HW1 := hid hw1
        have c0 := cell_of hw1.hd 0
        have c1 := cell_of hw1.hd 1
        clear hw1 e1 f1 e2 f2 e3 f3 e4 f4
        go_wp2_with fail
        refine ⟨?_, HW1.out⟩
        exact rfl
      · kernel_rfl
      refine Seq4.at1 (a' := ?_) (by decide) (by decide) (by decide) ?_ ?_ ?_
      rotate_left
      ·
        intro b2 b3 b4 w2 e2 f2 e3 f3 e4 f4 hw1
        obtain rfl := e2 (by kernel_rfl)
        obtain rfl := e3 (by kernel_rfl)
        obtain rfl := e4 (by kernel_rfl)
        obtain rfl : w2 = W4.drew := hw1.pin
        clear hw1 e2 f2 e3 f3 e4 f4
        go_wp2_with fail
        refine ⟨?_, rfl, HP1.out⟩
        exact rfl
      · kernel_rfl
      iterate 6
        refine Seq4.calm (a' := ?_) (by decide) (by decide) (by decide) (by decide) ?_ ?_ ?_
        rotate_left
        ·
          intro b1 b2 b3 b4 w1 e1 f1 e2 f2 e3 f3 e4 f4 hw1
          obtain rfl := e4 (by kernel_rfl)
          have HW1 := hid hw1
          have c0 := cell_of hw1.hd 0
          have c1 := cell_of hw1.hd 1
          clear hw1 e1 f1 e2 f2 e3 f3 e4 f4
          go_wp2_with fail
          refine ⟨?_, HW1.out⟩
          exact rfl
        · kernel_rfl
      refine Seq4.at2 (a' := ?_) (by decide) (by decide) (by decide) ?_ ?_ ?_
      rotate_left
      ·
        intro b1 b3 b4 w2 e1 f1 e3 f3 e4 f4 hw1
        obtain rfl := f1 (by kernel_rfl)
        obtain rfl := e3 (by kernel_rfl)
        obtain rfl := e4 (by kernel_rfl)
        obtain rfl : w2 = (W4.drew).alloc (.cells #[] 24) := hw1.pin
        clear hw1 e1 f1 e3 f3 e4 f4
        refine wpList_append_run rfl _ _ _ rfl _ _ _ W2 rfl rfl HR1.out ?_
        refine ⟨?_, rfl, HP2.out⟩
        exact rfl
      · kernel_rfl
      iterate 7
        refine Seq4.calm (a' := ?_) (by decide) (by decide) (by decide) (by decide) ?_ ?_ ?_
        rotate_left
        ·
          intro b1 b2 b3 b4 w1 e1 f1 e2 f2 e3 f3 e4 f4 hw1
          obtain rfl := e4 (by kernel_rfl)
          have HW1 := hid hw1
          have c0 := cell_of hw1.hd 0
          have c1 := cell_of hw1.hd 1
          clear hw1 e1 f1 e2 f2 e3 f3 e4 f4
          go_wp2_with fail
          refine ⟨?_, HW1.out⟩
          exact rfl
        · kernel_rfl
      refine Seq4.at3 (a' := ?_) (by decide) (by decide) (by decide) ?_ ?_ ?_
      rotate_left
      ·
        intro b1 b2 b4 w2 e1 f1 e2 f2 e4 f4 hw1
        obtain rfl := f1 (by kernel_rfl)
        obtain rfl := f2 (by kernel_rfl)
        obtain rfl := e4 (by kernel_rfl)
        obtain rfl : w2 = W2 := hw1.pin
        clear hw1 e1 f1 e2 f2 e4 f4
        refine wpList_append_run rfl _ _ _ rfl _ _ _ W3 rfl rfl HR2.out ?_
        refine ⟨?_, rfl, HP3.out⟩
        exact rfl
      · kernel_rfl
      iterate 2
        refine Seq4.calm (a' := ?_) (by decide) (by decide) (by decide) (by decide) ?_ ?_ ?_
        rotate_left
        ·
          intro b1 b2 b3 b4 w1 e1 f1 e2 f2 e3 f3 e4 f4 hw1
          obtain rfl := e4 (by kernel_rfl)
          have HW1 := hid hw1
          have c0 := cell_of hw1.hd 0
          have c1 := cell_of hw1.hd 1
          clear hw1 e1 f1 e2 f2 e3 f3 e4 f4
          go_wp2_with fail
          refine ⟨?_, HW1.out⟩
          exact rfl
        · kernel_rfl
      refine Seq4.at4 (a' := ?_) (by decide) (by decide) (by decide) ?_ ?_ ?_
      rotate_left
      ·
        intro b1 b2 b3 w2 e1 f1 e2 f2 e3 f3 hw1
        obtain rfl := f1 (by kernel_rfl)
        obtain rfl := f2 (by kernel_rfl)
        obtain rfl := f3 (by kernel_rfl)
        obtain rfl : w2 = W3 := hw1.pin
        have c0 := cell_of hw1.hd 0
        have c1 := cell_of hw1.hd 1
        have cf := free_of hw1.hd
        clear hw1 e1 f1 e2 f2 e3 f3
        go_wp2_with fail
        refine ⟨?_, rfl, HP4.out⟩
        exact rfl
      · kernel_rfl
      refine SeqC.nil ?_
      intro D w2 hD hI
      replace hI := hI.done (hD 1 (by omega)) (hD 8 (by omega)) (hD 16 (by omega)) (hD 19 (by omega))
      obtain rfl : w2 = W3.setCell ⟨p, 1, none⟩ (.slice a7 (l.length - 1) c7) := hI.pin
      clear hD hI
      dsimp only [List.drop]
      clear HR1 HR2 HP0 HP1 HP2 HP3 HP4
      go_wp2_with fail
      go_ret
      exact ⟨_, _, rfl, HFIN.out, (Mod.ofBelow (S := ROwn p (.slice (some ⟨g1, 0, none⟩) l.length cap1) (.slice (some ⟨g2, 0, none⟩) l.length cap2)) HBB.out).trans HM7.out (fun _ _ h => .inl h), fun k hk => .inr (HGE.out k hk), fun k hk => .inr (HGE7.out k hk)⟩

theorem del_idx {l : List (RefK × Wd)} {r : RefK} {n : Nat} (hnd : (l.map Prod.fst).Nodup) (h : idx l r = some n) : delKV l r = l.eraseIdx n := by
  obtain ⟨⟨y, hy, _⟩, _⟩ := idx_some h
  exact (erase_filter hnd hy).symm

/-- Gone, whatever the Ref. -/
theorem rgone_any (h : RAt w p rv wv l tk) (r : RefK) (hn : l.length ≤ 10000) (hnd : (l.map Prod.fst).Nodup) : Calls Try.prog 38 #[.pointer (some ⟨p, 0, none⟩), .agg #[.int .i64 r.1.1, .int .u32 r.1.2]] w fun e w' => ∃ rv' wv', e = .returned (.int .i64 (goneL l r).1) ∧ RAt w' p rv' wv' (goneL l r).2 tk ∧ Mod (ROwn p rv wv) w w' ∧
    (∀ g, rv'.ownBlock = some g → rv.ownBlock = some g ∨ w.heap.size ≤ g) ∧ (∀ g, wv'.ownBlock = some g → wv.ownBlock = some g ∨ w.heap.size ≤ g) := by
  unfold goneL
  cases hx : idx l r with
  | some n =>
    obtain ⟨⟨y, hy, hl⟩, _⟩ := idx_some hx
    rw [hl]
    simp only [Option.isSome_some, if_true]
    rw [del_idx hnd hx]
    exact rgone_yes h r hn hnd n hx
  | none =>
    obtain ⟨hl, _⟩ := idx_none hx
    rw [hl]
    simp only [Option.isSome_none, Bool.false_eq_true, if_false]
    have HA := hid (h.alloc (.cells #[.int .i64 r.1.1, .int .u32 r.1.2] 30))
    have HN := hid (heap_new w (.cells #[.int .i64 r.1.1, .int .u32 r.1.2] 30))
    have HB0 : Hid (Below w.heap.size w (w.alloc (.cells #[.int .i64 r.1.1, .int .u32 r.1.2] 30))) := hid ((Below.refl _ _).alloc (Nat.le_refl _) _)
    have R := at_any HA.out r (by omega)
    rw [hx] at R
    have HAT := hid R
    have HH := hid h
    have n0 := cell_of HN.out 0
    have n1 := cell_of HN.out 1
    clear h R hx hl hnd
    go_enter Try.func38, Try.ntmps38
    go_wp2_with (go_at_call 56; refine HAT.out.mono ?_; rintro e w1 ⟨rfl, hb1⟩)
    go_ret
    have hB := below_chain HB0.out hb1 HB0.out.size
    exact ⟨rv, wv, rfl, HH.out.keep hB, Mod.ofBelow hB, fun g hg => .inl hg, fun g hg => .inl hg⟩
end
end Go.Proofs.Ytofkodfdgbjboaa
