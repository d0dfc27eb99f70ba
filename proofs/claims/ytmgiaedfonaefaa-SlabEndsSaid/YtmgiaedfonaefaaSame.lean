/- same: the slab and its reference are compared. -/
import Derived.Test.YtmgiaedfonaefaaIter
import Derived.Test.YtmgiaedfonaefaaRegIn
import Derived.Test.YtmgiaedfonaefaaRS2
namespace Go.Proofs.Ytmgiaedfonaefaa.C
open Go.ChangeShapes Go.WideShapes Go.ChangeAt Go.RowKit Go.Burg Go.Shelf
attribute [local go_sem] Oper.semAt_some

theorem kept_cells {A B : World} {row : Option Nat} (hg : A.grownBy B row) {base : Nat} (hr : ∀ r, row = some r → base ≤ r ∧ ∃ o : Obj, A.heap[r]? = some o ∧ o.isCells = false) {k : Nat} {o : Obj} (hk : A.heap[k]? = some o) (hc : o.isCells = true) : B.heap[k]? = some o :=
  (hg.block k (lt_of_block hk) (fun e => by
    obtain ⟨_, o', ho', hn⟩ := hr k e.symm
    rw [hk] at ho'
    cases ho'
    rw [hc] at hn
    cases hn)).trans hk

/-- Between two rounds of the comparison. -/
structure SI (w : World) (b2 g2 H : Nat) (l : List (Cel Int)) (pre : List Lv) (W : World) : Prop where
  pos : ∃ p : Nat, p ≤ l.length ∧ pre = ups l p ∧ W.heap[H]? = some (.cells #[.int .i64 p] 3)
  b3 : W.heap[w.heap.size]? = some (.cells #[.pointer (some ⟨b2, 0, none⟩)] 47)
  b4 : W.heap[w.heap.size + 1]? = some (.cells #[.bool false] 4)
  ra : SlabAt (fun x : Int => .int .i64 x) 82 79 W b2 g2 l
  bel : Below w.heap.size w W
  lz : H + 2 ≤ W.heap.size

theorem SI.kept {w A B : World} {b2 g2 H : Nat} {l : List (Cel Int)} {pre : List Lv} (hs : SI w b2 g2 H l pre A) {row : Option Nat} (hg : A.grownBy B row) {base : Nat} (hb : w.heap.size ≤ base)
    (hr : ∀ r, row = some r → base ≤ r ∧ ∃ o : Obj, A.heap[r]? = some o ∧ o.isCells = false) : SI w b2 g2 H l pre B := by
  obtain ⟨⟨p, h1, h2, h3⟩, h4, h5, h6, h7, h8⟩ := hs
  refine ⟨⟨p, h1, h2, kept_cells hg hr h3 rfl⟩, kept_cells hg hr h4 rfl, kept_cells hg hr h5 rfl, h6.same ((kept_cells hg hr h6.hb rfl).trans h6.hb.symm) ?_, h7.grown hg h7.size (fun k e => Nat.le_trans hb (hr k e).1), Nat.le_trans h8 hg.size⟩
  obtain ⟨cs, hc, _⟩ := h6.hc.hg
  exact (kept_cells hg hr hc rfl).trans hc.symm

theorem SI.turned {w W W' : World} {b2 g2 H q : Nat} {l : List (Cel Int)} {pre pre' : List Lv} (hs : SI w b2 g2 H l pre W) (hM : Mod (· = H) W W') (hw : w.heap.size + 2 ≤ H) (hb : H ≠ b2) (hg : H ≠ g2) (hq : q ≤ l.length) (hp : pre' = ups l q)
    (h5 : W'.heap[H]? = some (.cells #[.int .i64 q] 3)) : SI w b2 g2 H l pre' W' :=
  ⟨⟨q, hq, hp, h5⟩, (hM.block _ (lt_of_block hs.b3) (by omega)).trans hs.b3, (hM.block _ (lt_of_block hs.b4) (by omega)).trans hs.b4, hs.ra.mod hM (fun e => hb e.symm) (fun e => hg e.symm),
    hs.bel.trans (hM.below hs.bel.size (fun i hi e => by omega)), Nat.le_trans hs.lz hM.size⟩
theorem keeps_mod {W W' : World} {H base : Nat} (hM : Mod (· = H) W W') (h : H < base) : KeepsFrom base W W' := ⟨hM.size, fun k o hk ho _ => (hM.block k (lt_of_block ho) (by omega)).trans ho⟩
theorem no_end {l : List (Cel Int)} {p : Nat} {x : Lv} (h : ups l l.length = ups l p) : ¬ (ups l p ++ [x]) <+: lives l := fun hp => by
  have := hp.length_le
  unfold lives at this
  rw [h] at this
  simp at this
  omega
theorem no_other {l : List (Cel Int)} {p q : Nat} {c : Cel Int} {x : Lv} (h : ups l q = ups l p) (hc : l[q]? = some c) (his : c.is = true) (hx : x ≠ (q, c.gen, c.x)) : ¬ (ups l p ++ [x]) <+: lives l := fun hp => by
  have hql := (List.getElem?_eq_some_iff.1 hc).1
  have h2 : ups l q ++ [(q, c.gen, c.x)] <+: lives l := by
    rw [← ups_yes hc his]
    exact ups_pre l (by omega)
  rw [h] at h2
  have h3 := List.prefix_of_prefix_length_le hp h2 (by simp)
  have h4 := h3.eq_of_length (by simp)
  have h5 := List.append_cancel_left h4
  exact hx (by simpa using h5)

theorem no_more {l : List (Cel Int)} {q : Nat} {c : Cel Int} (h : ups l q = lives l) (hc : l[q]? = some c) : c.is = false := by
  cases his : c.is
  · rfl
  · have hql := (List.getElem?_eq_some_iff.1 hc).1
    have h2 := ups_pre l (show q + 1 ≤ l.length by omega)
    rw [ups_yes hc his, h] at h2
    have := h2.length_le
    unfold lives at this
    simp at this
    omega

def posOf (H : Nat) (wr : World) : Nat := (intOf ((wr.cell? ⟨H, 0, none⟩).getD undef)).toNat
theorem posOf_eq {H q : Nat} {wr : World} (h : wr.heap[H]? = some (.cells #[.int .i64 q] 3)) : posOf H wr = q := by
  unfold posOf
  rw [cell_of h 0]
  simp [intOf]

set_option maxRecDepth 100000 in
set_option maxHeartbeats 8000000 in
theorem same_any {b g cp b2 g2 : Nat} {l : List (Cel Int)} (w : World) (hS : SlabC (fun x : Int => .int .i64 x) 69 66 w b g cp l) (hR : SlabAt (fun x : Int => .int .i64 x) 82 79 w b2 g2 l) :
    Calls Try.prog 19 #[.pointer (some ⟨b, 0, none⟩), .pointer (some ⟨b2, 0, none⟩)] w fun e w' => e = .returned (.bool true) ∧ Below w.heap.size w w' := by
  have hA := (hS.alloc (.cells #[.pointer (some ⟨b2, 0, none⟩)] 47)).alloc (.cells #[.bool false] 4)
  have hRA := (hR.alloc (.cells #[.pointer (some ⟨b2, 0, none⟩)] 47)).alloc (.cells #[.bool false] 4)
  have h3 : ((w.alloc (.cells #[.pointer (some ⟨b2, 0, none⟩)] 47)).alloc (.cells #[.bool false] 4)).heap[w.heap.size]? = some (.cells #[.pointer (some ⟨b2, 0, none⟩)] 47) := blk_alloc (heap_new _ _)
  have h4 : ((w.alloc (.cells #[.pointer (some ⟨b2, 0, none⟩)] 47)).alloc (.cells #[.bool false] 4)).heap[w.heap.size + 1]? = some (.cells #[.bool false] 4) := by
    have := heap_new (w.alloc (.cells #[.pointer (some ⟨b2, 0, none⟩)] 47)) (.cells #[.bool false] 4)
    simpa using this
  have hB : Below w.heap.size w ((w.alloc (.cells #[.pointer (some ⟨b2, 0, none⟩)] 47)).alloc (.cells #[.bool false] 4)) := ((Below.refl _ _).alloc (Nat.le_refl _) _).alloc (by simp) _
  have hp := hS.pos
  have ht := hS.top
  have HS := hid hS
  have HR := hid hR
  clear hS hR
  refine (callsIn_wide (n := 8)).1 ?_
  refine callsIn_of_wp_marks Try.func19 rfl trivial ?_ rfl
  refine wpIn_wide.2 ?_
  simp only [Try.ntmps19, List.size_toArray, List.length_cons, List.length_nil, Nat.reduceAdd, Nat.reduceSub, Array.replicate_succ, Array.replicate_zero, List.push_toArray, List.append_toArray, List.nil_append, List.cons_append]
  go_wp2_with fail
  generalize hW0 : (w.alloc (.cells #[.pointer (some ⟨b2, 0, none⟩)] 47)).alloc (.cells #[.bool false] 4) = W0 at *
  have HA := hid hA
  have HRA := hid hRA
  have H3 := hid h3
  have H4 := hid h4
  have HB := hid hB
  clear hA hRA h3 h4 hB hW0
  refine wp_region_seq 12 (fun w1 => Below (W0).heap.size (W0) w1) (by kernel_rfl) (by kernel_rfl) (by kernel_rfl) ⟨rfl, rfl, rfl, Nat.le_refl _, fun _ _ => rfl⟩ ?_
  dsimp only [List.take]
  iterate 12
    refine Seq.cons (a' := ?_) ?_ ?_ ?_
    rotate_left
    ·
      intro w1 hw1
      have k3 := cell_of (blk_below H3.out hw1 (lt_of_block H3.out)) 0
      go_wp2_with (first | (go_at_call 14; refine (len_any _ (HA.out.keep hw1)).mono ?_; rintro e w' ⟨rfl, hb⟩) | (go_at_call 40; refine (R.len_any _ (HRA.out.keep hw1)).mono ?_; rintro e w' ⟨rfl, hb⟩) | (go_at_call 11; refine (left_any _ (HA.out.keep hw1)).mono ?_; rintro e w' ⟨rfl, hb⟩) | (go_at_call 41; refine (R.left_any _ (HRA.out.keep hw1)).mono ?_; rintro e w' ⟨rfl, hb⟩))
      refine ⟨?_, by first | assumption | (simpa using below_chain hw1 hb hw1.size)⟩
      exact rfl
    · kernel_rfl
  refine SeqI.nil ?_
  intro _ w1 _ hw1
  dsimp only [List.drop]
  have HA1 := hid (HA.out.keep hw1)
  have HR1 := hid (HRA.out.keep hw1)
  have h31 := blk_below H3.out hw1 (lt_of_block H3.out)
  have h41 := blk_below H4.out hw1 (lt_of_block H4.out)
  have hB1 := HB.out.trans (hw1.mono HB.out.size)
  have H31 := hid h31
  have H41 := hid h41
  have HB1 := hid hB1
  clear hw1 HA HRA H3 H4 HB h31 h41 hB1
  go_wp2_with fail
  refine (all_any _).mono ?_
  rintro e w2 ⟨rfl, rfl⟩
  have hsz : w.heap.size + 2 ≤ w1.heap.size := by have := lt_of_block H41.out; omega
  have k5 : ((w1.alloc (.cells #[.int .i64 0] 3)).alloc (.cells #[.pointer (some ⟨b, 0, none⟩)] 23)).heap[w1.heap.size]? = some (.cells #[.int .i64 0] 3) := blk_alloc (heap_new _ _)
  have kB : ((w1.alloc (.cells #[.int .i64 0] 3)).alloc (.cells #[.pointer (some ⟨b, 0, none⟩)] 23)).heap[w1.heap.size + 1]? = some (.cells #[.pointer (some ⟨b, 0, none⟩)] 23) := by
    have := heap_new (w1.alloc (.cells #[.int .i64 0] 3)) (.cells #[.pointer (some ⟨b, 0, none⟩)] 23)
    simpa using this
  have HA2 := hid ((HA1.out.alloc (.cells #[.int .i64 0] 3)).alloc (.cells #[.pointer (some ⟨b, 0, none⟩)] 23))
  have h0 : SI w b2 g2 w1.heap.size l [] ((w1.alloc (.cells #[.int .i64 0] 3)).alloc (.cells #[.pointer (some ⟨b, 0, none⟩)] 23)) :=
    ⟨⟨0, Nat.zero_le _, rfl, k5⟩, blk_alloc (blk_alloc H31.out), blk_alloc (blk_alloc H41.out), (HR1.out.alloc _).alloc _, (HB1.out.alloc (by omega) _).alloc (by simp; omega) _, by simp⟩
  have hsl : ((w1.alloc (.cells #[.int .i64 0] 3)).alloc (.cells #[.pointer (some ⟨b, 0, none⟩)] 23)).heap.size = w1.heap.size + 2 := by simp
  go_wp2_with fail
  generalize (w1.alloc (.cells #[.int .i64 0] 3)).alloc (.cells #[.pointer (some ⟨b, 0, none⟩)] 23) = Wl at *
  obtain ⟨H, hH⟩ : ∃ H, w1.heap.size = H := ⟨_, rfl⟩
  simp only [hH] at *
  have HH0 := hid h0
  have HKB := hid kB
  clear h0 kB k5 hH HA1 HR1 H31 H41 HB1
  refine wpIn_wide.1 (wpIn_rangeFunc_ownH (n := 8) (gf := 42) (lb := #[.pointer (some ⟨H + 1, 0, none⟩)]) rfl (by decide) rfl trivial (enters_of Try.func42 (by kernel_rfl) rfl)
    (all_stops 7 (H + 1) b g cp l Wl HKB.out HA2.out) KpC.trans (fun W L o o' _ h ho _ => KpC.put W L o o' h ho) (Below.refl _ _) (fun _ => rfl)
    (fun pre W => SI w b2 g2 H l pre W) (fun c pre _ => c = .ret ∧ ¬ pre <+: lives l)
    (fun pre A B row hs hg hr => hs.kept hg (base := Wl.heap.size) (by omega) hr) (fun c => ownFrom_pure _ _) HH0.out
    (fun x a' W => ∃ Bx, Wl.heap.size ≤ Bx ∧ W.heap[Bx]? = some (.cells #[.int .i64 (x.1 : Int), .int .u32 x.2.1] 31) ∧ a' = { tmps := #[.pointer (some ⟨b, 0, none⟩), .pointer (some ⟨b2, 0, none⟩), undef, .pointer (some ⟨w.heap.size, 0, none⟩), .pointer (some ⟨w.heap.size + 1, 0, none⟩), .pointer (some ⟨H, 0, none⟩), .pointer (some ⟨Bx, 0, none⟩), .int .i64 x.2.2, .pointer (some ⟨b, 0, none⟩), .int .i64 (l.countP Cel.is : Nat), .pointer (some ⟨b2, 0, none⟩), .int .i64 (l.countP Cel.is : Nat), .bool false, .bool false, .pointer (some ⟨b, 0, none⟩), .int .i64 (l.countP Cel.room : Nat), .pointer (some ⟨b2, 0, none⟩), .int .i64 (l.countP Cel.room : Nat), .bool false, .bool false, .pointer (some ⟨b, 0, none⟩), .func (.func 42) #[] #[.pointer (some ⟨H + 1, 0, none⟩)], .agg #[.int .i64 (x.1 : Int), .int .u32 x.2.1], .int .i64 x.2.2, undef, undef, undef, undef, undef, undef, undef, undef, undef, undef, undef, undef, undef, undef, undef, undef, undef, undef, undef, undef, undef, undef, undef, undef, undef, undef, undef, undef, undef, undef, undef, undef, undef, undef, undef, undef, undef, undef, undef, undef, undef, undef, undef, undef, undef, undef, undef, undef, undef, undef, undef, undef, undef, undef, undef, undef, undef, undef, undef, undef, undef, undef, undef, undef, undef, undef, undef, undef, undef, undef, undef, undef, undef, undef, undef, undef, undef, undef, undef, undef, undef, undef], defers := [] })
    (fun x a' _ A B row hs hg hr => by obtain ⟨Bx, h1, h2, h3⟩ := hs; exact ⟨Bx, h1, kept_cells hg hr h2 rfl, h3⟩)
    ?assign ?body ?done ?stop)
  case assign =>
    intro L pre x W K hI hK
    unfold encs
    gi_wp2_with fail
    refine hK _ _ ((KeepsOthers.alloc _ _).from _) (KpC.below ((Below.refl _ _).alloc (Nat.le_refl _) _)) (hI.kept (World.grownBy_alloc W _ none) (base := Wl.heap.size) (by omega) (fun r e => by cases e)) ⟨W.heap.size, ?_, heap_new _ _, ?_⟩
    · have := hI.lz
      omega
    · rfl
  case body =>
    rintro L pre x a' W hL _ hI ⟨Bx, hBx, hX, rfl⟩ _
    obtain ⟨p, hp1, rfl, hp5⟩ := hI.pos
    have HI := hid hI
    have HX := hid hX
    have HP5 := hid hp5
    have hHB : H < W.heap.size := lt_of_block hp5
    have hHg : H ≠ g2 := by
      intro e
      have h1 := HI.out.ra.hc.hg
      obtain ⟨cs, h1, _⟩ := h1
      rw [← e, hp5] at h1
      simp at h1
    have hHb : H ≠ b2 := by
      intro e
      have h1 := HI.out.ra.hb
      rw [← e, hp5] at h1
      simp at h1
    clear hI hX hp5
    gi_wp2_with fail
    gi_loopw [] (fun wr => ∃ q : Nat, p ≤ q ∧ q ≤ l.length ∧ ups l q = ups l p ∧ wr.heap[H]? = some (.cells #[.int .i64 q] 3) ∧ Mod (· = H) W wr) (fun wr => l.length - posOf H wr)
    case atStart => exact ⟨p, Nat.le_refl _, hp1, rfl, HP5.out, Mod.refl _ _⟩
    case round =>
      obtain ⟨q, hpq, hq, hu, h5, hM⟩ := hrel
      have h3 := (hM.block _ (lt_of_block HI.out.b3) (by omega)).trans HI.out.b3
      have hra := HI.out.ra.mod hM (fun e => hHb e.symm) (fun e => hHg e.symm)
      have H3 := hid h3
      have HRA := hid hra
      have H5 := hid h5
      have HU := hid hu
      have HM := hid hM
      clear h3 hra h5 hu hM
      by_cases hlt : q < l.length
      · have hi : l[q]? = some l[q] := List.getElem?_eq_getElem hlt
        have HIQ := hid hi
        generalize l[q] = c at hi HIQ
        clear hi
        cases hci : c.is
        · as_aux_lemma =>
            gi_wp2_with fail
            refine region_round (by kernel_rfl) (by rintro ⟨_, _, h⟩; exact h) (by kernel_rfl) ?_
            refine reg_seq 18 (fun w1 => Below (wr).heap.size (wr) w1) (by kernel_rfl) (by kernel_rfl) ⟨rfl, rfl, rfl, Nat.le_refl _, fun _ _ => rfl⟩ ?_
            dsimp only [List.take]
            iterate 18
              refine Seq.cons (a' := ?_) ?_ ?_ ?_
              rotate_left
              ·
                intro w1 hw1
                have k3 := cell_of (blk_below H3.out hw1 (lt_of_block H3.out)) 0
                have k5 := cell_of (blk_below H5.out hw1 (lt_of_block H5.out)) 0
                have hr := HRA.out.keep hw1
                obtain ⟨s0, sf⟩ := hr.head
                obtain ⟨c0, c1, c2, cf, _, _⟩ := hr.hc.cell HIQ.out
                rw [hci] at c0
                clear hr c1 c2
                go_wp2_with (fail)
                refine ⟨?_, by first | assumption | (simpa using below_chain hw1 hb hw1.size)⟩
                exact rfl
              · kernel_rfl
            refine SeqI.nil ?_
            intro _ w1 _ hw1
            dsimp only [List.drop]
            have h51 := blk_below H5.out hw1 (lt_of_block H5.out)
            have k5 := cell_of h51 0
            have f5 := free_of h51
            have H51 := hid h51
            have HM1 : Hid (Mod (· = H) W w1) := hid (HM.out.trans (Mod.ofBelow (S := (· = H)) hw1) (fun _ _ h => h))
            clear hw1 h51
            go_wp2_with fail
            gi_wp2_with fail
            have h6 : (w1.setCell ⟨H, 0, none⟩ (.int .i64 ((q : Int) + 1))).heap[H]? = some (.cells #[.int .i64 ((q + 1 : Nat) : Int)] 3) := by simpa using heap_set (i := 0) (v := .int .i64 ((q : Int) + 1)) H51.out
            go_roundw
            case rel => exact ⟨q + 1, by omega, by omega, (ups_no HIQ.out hci).trans HU.out, h6, HM1.out.setCell (.inl rfl) _⟩
            case measure =>
              rw [posOf_eq h6, posOf_eq H5.out]
              omega
        · obtain ⟨x1, xg, xv⟩ := x
          obtain ⟨is, cv, gn⟩ := c
          simp only at hci
          subst hci
          by_cases hm1 : (x1 : Int) = q ∧ xg = gn
          · obtain ⟨hm1, rfl⟩ := hm1
            obtain rfl : x1 = q := by omega
            by_cases hm2 : xv = cv
            · as_aux_lemma =>
                subst hm2
                gi_wp2_with fail
                refine region_round (by kernel_rfl) (by rintro ⟨_, _, h⟩; exact h) (by kernel_rfl) ?_
                refine reg_seq 18 (fun w1 => Below (wr).heap.size (wr) w1) (by kernel_rfl) (by kernel_rfl) ⟨rfl, rfl, rfl, Nat.le_refl _, fun _ _ => rfl⟩ ?_
                dsimp only [List.take]
                iterate 18
                  refine Seq.cons (a' := ?_) ?_ ?_ ?_
                  rotate_left
                  ·
                    intro w1 hw1
                    have k3 := cell_of (blk_below H3.out hw1 (lt_of_block H3.out)) 0
                    have k5 := cell_of (blk_below H5.out hw1 (lt_of_block H5.out)) 0
                    have hr := HRA.out.keep hw1
                    obtain ⟨s0, sf⟩ := hr.head
                    obtain ⟨c0, c1, c2, cf, _, _⟩ := hr.hc.cell HIQ.out
                    simp only at c0
                    clear hr c1 c2
                    go_wp2_with (fail)
                    refine ⟨?_, by first | assumption | (simpa using below_chain hw1 hb hw1.size)⟩
                    exact rfl
                  · kernel_rfl
                refine SeqI.nil ?_
                intro _ w1 _ hw1
                dsimp only [List.drop]
                have H51 := hid (blk_below H5.out hw1 (lt_of_block H5.out))
                have H31 := hid (blk_below H3.out hw1 (lt_of_block H3.out))
                have HR1 := hid (HRA.out.keep hw1)
                have HM1 : Hid (Mod (· = H) W w1) := hid (HM.out.trans (Mod.ofBelow (S := (· = H)) hw1) (fun _ _ h => h))
                have HX1 := hid ((HM1.out.block _ (lt_of_block HX.out) (by omega)).trans HX.out)
                clear hw1
                go_wp2_with fail
                gi_wp2_with fail
                obtain ⟨wx, hwx⟩ : ∃ wx, wx = w1 := ⟨_, rfl⟩
                subst hwx
                refine region_round (by kernel_rfl) (by rintro ⟨_, _, h⟩; exact h) (by kernel_rfl) ?_
                refine reg_seq 33 (fun w1 => Below (wx).heap.size (wx) w1) (by kernel_rfl) (by kernel_rfl) ⟨rfl, rfl, rfl, Nat.le_refl _, fun _ _ => rfl⟩ ?_
                dsimp only [List.take]
                iterate 33
                  refine Seq.cons (a' := ?_) ?_ ?_ ?_
                  rotate_left
                  ·
                    intro w1 hw1
                    have k3 := cell_of (blk_below H31.out hw1 (lt_of_block H31.out)) 0
                    have k5 := cell_of (blk_below H51.out hw1 (lt_of_block H51.out)) 0
                    have hx := blk_below HX1.out hw1 (lt_of_block HX1.out)
                    have x0 := cell_of hx 0
                    have x1' := cell_of hx 1
                    have hr := HR1.out.keep hw1
                    obtain ⟨s0, sf⟩ := hr.head
                    obtain ⟨c0, c1, c2, cf, _, _⟩ := hr.hc.cell HIQ.out
                    simp only at c1 c2
                    clear hr c0 hx
                    go_wp2_with (fail)
                    refine ⟨?_, by first | assumption | (simpa using below_chain hw1 hb hw1.size)⟩
                    exact rfl
                  · kernel_rfl
                refine SeqI.nil ?_
                intro _ w1 _ hw1
                dsimp only [List.drop]
                have h51 := blk_below H51.out hw1 (lt_of_block H51.out)
                have k5 := cell_of h51 0
                have f5 := free_of h51
                have H52 := hid h51
                have H32 := hid (blk_below H31.out hw1 (lt_of_block H31.out))
                have HR2 := hid (HR1.out.keep hw1)
                have HM2 : Hid (Mod (· = H) W w1) := hid (HM1.out.trans (Mod.ofBelow (S := (· = H)) hw1) (fun _ _ h => h))
                clear hw1 h51
                go_wp2_with fail
                gi_wp2_with fail
                have h6 : (w1.setCell ⟨H, 0, none⟩ (.int .i64 ((x1 : Int) + 1))).heap[H]? = some (.cells #[.int .i64 ((x1 + 1 : Nat) : Int)] 3) := by simpa using heap_set (i := 0) (v := .int .i64 ((x1 : Int) + 1)) H52.out
                have hMf : Mod (· = H) W (w1.setCell ⟨H, 0, none⟩ (.int .i64 ((x1 : Int) + 1))) := HM2.out.setCell (.inl rfl) _
                exact ⟨keeps_mod hMf (by omega), KpC.mod hMf (fun i hi e => by omega), HI.out.turned hMf (by omega) hHb hHg (by omega) (by rw [← HU.out]; exact (ups_yes HIQ.out rfl).symm) h6⟩
            · as_aux_lemma =>
                have hm2' : (xv != cv) = true := by simpa using hm2
                have hle : decide (l.length ≤ x1) = false := by simp; omega
                have HNP := hid (no_other (x := (x1, xg, xv)) HU.out HIQ.out rfl (fun e => hm2 (by simpa using e)))
                clear hm2
                gi_wp2_with fail
                refine region_round (by kernel_rfl) (by rintro ⟨_, _, h⟩; exact h) (by kernel_rfl) ?_
                refine reg_seq 18 (fun w1 => Below (wr).heap.size (wr) w1) (by kernel_rfl) (by kernel_rfl) ⟨rfl, rfl, rfl, Nat.le_refl _, fun _ _ => rfl⟩ ?_
                dsimp only [List.take]
                iterate 18
                  refine Seq.cons (a' := ?_) ?_ ?_ ?_
                  rotate_left
                  ·
                    intro w1 hw1
                    have k3 := cell_of (blk_below H3.out hw1 (lt_of_block H3.out)) 0
                    have k5 := cell_of (blk_below H5.out hw1 (lt_of_block H5.out)) 0
                    have hr := HRA.out.keep hw1
                    obtain ⟨s0, sf⟩ := hr.head
                    obtain ⟨c0, c1, c2, cf, _, _⟩ := hr.hc.cell HIQ.out
                    simp only at c0
                    clear hr c1 c2
                    go_wp2_with (fail)
                    refine ⟨?_, by first | assumption | (simpa using below_chain hw1 hb hw1.size)⟩
                    exact rfl
                  · kernel_rfl
                refine SeqI.nil ?_
                intro _ w1 _ hw1
                dsimp only [List.drop]
                have H51 := hid (blk_below H5.out hw1 (lt_of_block H5.out))
                have H31 := hid (blk_below H3.out hw1 (lt_of_block H3.out))
                have HR1 := hid (HRA.out.keep hw1)
                have HM1 : Hid (Mod (· = H) W w1) := hid (HM.out.trans (Mod.ofBelow (S := (· = H)) hw1) (fun _ _ h => h))
                have HX1 := hid ((HM1.out.block _ (lt_of_block HX.out) (by omega)).trans HX.out)
                clear hw1
                go_wp2_with fail
                gi_wp2_with fail
                obtain ⟨wx, hwx⟩ : ∃ wx, wx = w1 := ⟨_, rfl⟩
                subst hwx
                refine region_round (by kernel_rfl) (by rintro ⟨_, _, h⟩; exact h) (by kernel_rfl) ?_
                refine reg_seq 33 (fun w1 => Below (wx).heap.size (wx) w1) (by kernel_rfl) (by kernel_rfl) ⟨rfl, rfl, rfl, Nat.le_refl _, fun _ _ => rfl⟩ ?_
                dsimp only [List.take]
                iterate 33
                  refine Seq.cons (a' := ?_) ?_ ?_ ?_
                  rotate_left
                  ·
                    intro w1 hw1
                    have k3 := cell_of (blk_below H31.out hw1 (lt_of_block H31.out)) 0
                    have k5 := cell_of (blk_below H51.out hw1 (lt_of_block H51.out)) 0
                    have hx := blk_below HX1.out hw1 (lt_of_block HX1.out)
                    have x0 := cell_of hx 0
                    have x1' := cell_of hx 1
                    have hr := HR1.out.keep hw1
                    obtain ⟨s0, sf⟩ := hr.head
                    obtain ⟨c0, c1, c2, cf, _, _⟩ := hr.hc.cell HIQ.out
                    simp only at c1 c2
                    clear hr c0 hx
                    go_wp2_with (fail)
                    refine ⟨?_, by first | assumption | (simpa using below_chain hw1 hb hw1.size)⟩
                    exact rfl
                  · kernel_rfl
                refine SeqI.nil ?_
                intro _ w1 _ hw1
                dsimp only [List.drop]
                have h4 := blk_below ((HM1.out.block _ (lt_of_block HI.out.b4) (by omega)).trans HI.out.b4) hw1 (by have := lt_of_block HI.out.b4; have := HM1.out.size; omega)
                have k4 := cell_of h4 0
                have f4 := free_of h4
                have HM2 : Hid (Mod (· = H) W w1) := hid (HM1.out.trans (Mod.ofBelow (S := (· = H)) hw1) (fun _ _ h => h))
                clear hw1 h4
                go_wp2_with fail
                gi_wp2_with fail
                exact ⟨(keeps_mod HM2.out (by omega)).trans ((KeepsOthers.setCell _ _ _).from _), rfl, HNP.out⟩
          · have HNP := hid (no_other (x := (x1, xg, xv)) HU.out HIQ.out rfl (fun e => hm1 (by simp at e; exact ⟨by omega, e.2.1⟩)))
            have hle : decide (l.length ≤ q) = false := by simp; omega
            by_cases hm3 : (x1 : Int) = q
            · as_aux_lemma =>
                have hm4 : (xg = gn) = False := eq_false (fun e => hm1 ⟨hm3, e⟩)
                obtain rfl : x1 = q := by omega
                clear hm1 hm3
                gi_wp2_with fail
                refine region_round (by kernel_rfl) (by rintro ⟨_, _, h⟩; exact h) (by kernel_rfl) ?_
                refine reg_seq 18 (fun w1 => Below (wr).heap.size (wr) w1) (by kernel_rfl) (by kernel_rfl) ⟨rfl, rfl, rfl, Nat.le_refl _, fun _ _ => rfl⟩ ?_
                dsimp only [List.take]
                iterate 18
                  refine Seq.cons (a' := ?_) ?_ ?_ ?_
                  rotate_left
                  ·
                    intro w1 hw1
                    have k3 := cell_of (blk_below H3.out hw1 (lt_of_block H3.out)) 0
                    have k5 := cell_of (blk_below H5.out hw1 (lt_of_block H5.out)) 0
                    have hr := HRA.out.keep hw1
                    obtain ⟨s0, sf⟩ := hr.head
                    obtain ⟨c0, c1, c2, cf, _, _⟩ := hr.hc.cell HIQ.out
                    simp only at c0
                    clear hr c1 c2
                    go_wp2_with (fail)
                    refine ⟨?_, by first | assumption | (simpa using below_chain hw1 hb hw1.size)⟩
                    exact rfl
                  · kernel_rfl
                refine SeqI.nil ?_
                intro _ w1 _ hw1
                dsimp only [List.drop]
                have H51 := hid (blk_below H5.out hw1 (lt_of_block H5.out))
                have H31 := hid (blk_below H3.out hw1 (lt_of_block H3.out))
                have HR1 := hid (HRA.out.keep hw1)
                have HM1 : Hid (Mod (· = H) W w1) := hid (HM.out.trans (Mod.ofBelow (S := (· = H)) hw1) (fun _ _ h => h))
                have HX1 := hid ((HM1.out.block _ (lt_of_block HX.out) (by omega)).trans HX.out)
                clear hw1
                go_wp2_with fail
                gi_wp2_with fail
                obtain ⟨wx, hwx⟩ : ∃ wx, wx = w1 := ⟨_, rfl⟩
                subst hwx
                refine region_round (by kernel_rfl) (by rintro ⟨_, _, h⟩; exact h) (by kernel_rfl) ?_
                refine reg_seq 33 (fun w1 => Below (wx).heap.size (wx) w1) (by kernel_rfl) (by kernel_rfl) ⟨rfl, rfl, rfl, Nat.le_refl _, fun _ _ => rfl⟩ ?_
                dsimp only [List.take]
                iterate 33
                  refine Seq.cons (a' := ?_) ?_ ?_ ?_
                  rotate_left
                  ·
                    intro w1 hw1
                    have k3 := cell_of (blk_below H31.out hw1 (lt_of_block H31.out)) 0
                    have k5 := cell_of (blk_below H51.out hw1 (lt_of_block H51.out)) 0
                    have hx := blk_below HX1.out hw1 (lt_of_block HX1.out)
                    have x0 := cell_of hx 0
                    have x1' := cell_of hx 1
                    have hr := HR1.out.keep hw1
                    obtain ⟨s0, sf⟩ := hr.head
                    obtain ⟨c0, c1, c2, cf, _, _⟩ := hr.hc.cell HIQ.out
                    simp only at c1 c2
                    clear hr c0 hx
                    go_wp2_with (fail)
                    refine ⟨?_, by first | assumption | (simpa using below_chain hw1 hb hw1.size)⟩
                    exact rfl
                  · kernel_rfl
                refine SeqI.nil ?_
                intro _ w1 _ hw1
                dsimp only [List.drop]
                have h4 := blk_below ((HM1.out.block _ (lt_of_block HI.out.b4) (by omega)).trans HI.out.b4) hw1 (by have := lt_of_block HI.out.b4; have := HM1.out.size; omega)
                have k4 := cell_of h4 0
                have f4 := free_of h4
                have HM2 : Hid (Mod (· = H) W w1) := hid (HM1.out.trans (Mod.ofBelow (S := (· = H)) hw1) (fun _ _ h => h))
                clear hw1 h4
                go_wp2_with fail
                gi_wp2_with fail
                exact ⟨(keeps_mod HM2.out (by omega)).trans ((KeepsOthers.setCell _ _ _).from _), rfl, HNP.out⟩
            · as_aux_lemma =>
                have hm4 : ((x1 : Int) = (q : Int)) = False := eq_false hm3
                clear hm1 hm3
                gi_wp2_with fail
                refine region_round (by kernel_rfl) (by rintro ⟨_, _, h⟩; exact h) (by kernel_rfl) ?_
                refine reg_seq 18 (fun w1 => Below (wr).heap.size (wr) w1) (by kernel_rfl) (by kernel_rfl) ⟨rfl, rfl, rfl, Nat.le_refl _, fun _ _ => rfl⟩ ?_
                dsimp only [List.take]
                iterate 18
                  refine Seq.cons (a' := ?_) ?_ ?_ ?_
                  rotate_left
                  ·
                    intro w1 hw1
                    have k3 := cell_of (blk_below H3.out hw1 (lt_of_block H3.out)) 0
                    have k5 := cell_of (blk_below H5.out hw1 (lt_of_block H5.out)) 0
                    have hr := HRA.out.keep hw1
                    obtain ⟨s0, sf⟩ := hr.head
                    obtain ⟨c0, c1, c2, cf, _, _⟩ := hr.hc.cell HIQ.out
                    simp only at c0
                    clear hr c1 c2
                    go_wp2_with (fail)
                    refine ⟨?_, by first | assumption | (simpa using below_chain hw1 hb hw1.size)⟩
                    exact rfl
                  · kernel_rfl
                refine SeqI.nil ?_
                intro _ w1 _ hw1
                dsimp only [List.drop]
                have H51 := hid (blk_below H5.out hw1 (lt_of_block H5.out))
                have H31 := hid (blk_below H3.out hw1 (lt_of_block H3.out))
                have HR1 := hid (HRA.out.keep hw1)
                have HM1 : Hid (Mod (· = H) W w1) := hid (HM.out.trans (Mod.ofBelow (S := (· = H)) hw1) (fun _ _ h => h))
                have HX1 := hid ((HM1.out.block _ (lt_of_block HX.out) (by omega)).trans HX.out)
                clear hw1
                go_wp2_with fail
                gi_wp2_with fail
                obtain ⟨wx, hwx⟩ : ∃ wx, wx = w1 := ⟨_, rfl⟩
                subst hwx
                refine region_round (by kernel_rfl) (by rintro ⟨_, _, h⟩; exact h) (by kernel_rfl) ?_
                refine reg_seq 33 (fun w1 => Below (wx).heap.size (wx) w1) (by kernel_rfl) (by kernel_rfl) ⟨rfl, rfl, rfl, Nat.le_refl _, fun _ _ => rfl⟩ ?_
                dsimp only [List.take]
                iterate 33
                  refine Seq.cons (a' := ?_) ?_ ?_ ?_
                  rotate_left
                  ·
                    intro w1 hw1
                    have k3 := cell_of (blk_below H31.out hw1 (lt_of_block H31.out)) 0
                    have k5 := cell_of (blk_below H51.out hw1 (lt_of_block H51.out)) 0
                    have hx := blk_below HX1.out hw1 (lt_of_block HX1.out)
                    have x0 := cell_of hx 0
                    have x1' := cell_of hx 1
                    have hr := HR1.out.keep hw1
                    obtain ⟨s0, sf⟩ := hr.head
                    obtain ⟨c0, c1, c2, cf, _, _⟩ := hr.hc.cell HIQ.out
                    simp only at c1 c2
                    clear hr c0 hx
                    go_wp2_with (fail)
                    refine ⟨?_, by first | assumption | (simpa using below_chain hw1 hb hw1.size)⟩
                    exact rfl
                  · kernel_rfl
                refine SeqI.nil ?_
                intro _ w1 _ hw1
                dsimp only [List.drop]
                have h4 := blk_below ((HM1.out.block _ (lt_of_block HI.out.b4) (by omega)).trans HI.out.b4) hw1 (by have := lt_of_block HI.out.b4; have := HM1.out.size; omega)
                have k4 := cell_of h4 0
                have f4 := free_of h4
                have HM2 : Hid (Mod (· = H) W w1) := hid (HM1.out.trans (Mod.ofBelow (S := (· = H)) hw1) (fun _ _ h => h))
                clear hw1 h4
                go_wp2_with fail
                gi_wp2_with fail
                exact ⟨(keeps_mod HM2.out (by omega)).trans ((KeepsOthers.setCell _ _ _).from _), rfl, HNP.out⟩
      · obtain rfl : q = l.length := by omega
        as_aux_lemma =>
          have HNP := hid (no_end (x := x) HU.out)
          gi_wp2_with fail
          refine region_round (by kernel_rfl) (by rintro ⟨_, _, h⟩; exact h) (by kernel_rfl) ?_
          refine reg_seq 18 (fun w1 => Below (wr).heap.size (wr) w1) (by kernel_rfl) (by kernel_rfl) ⟨rfl, rfl, rfl, Nat.le_refl _, fun _ _ => rfl⟩ ?_
          dsimp only [List.take]
          iterate 18
            refine Seq.cons (a' := ?_) ?_ ?_ ?_
            rotate_left
            ·
              intro w1 hw1
              have k3 := cell_of (blk_below H3.out hw1 (lt_of_block H3.out)) 0
              have k5 := cell_of (blk_below H5.out hw1 (lt_of_block H5.out)) 0
              have hr := HRA.out.keep hw1
              obtain ⟨s0, sf⟩ := hr.head
              clear hr
              go_wp2_with (fail)
              refine ⟨?_, by first | assumption | (simpa using below_chain hw1 hb hw1.size)⟩
              exact rfl
            · kernel_rfl
          refine SeqI.nil ?_
          intro _ w1 _ hw1
          dsimp only [List.drop]
          have H51 := hid (blk_below H5.out hw1 (lt_of_block H5.out))
          have H31 := hid (blk_below H3.out hw1 (lt_of_block H3.out))
          have HR1 := hid (HRA.out.keep hw1)
          have HM1 : Hid (Mod (· = H) W w1) := hid (HM.out.trans (Mod.ofBelow (S := (· = H)) hw1) (fun _ _ h => h))
          have HX1 := hid ((HM1.out.block _ (lt_of_block HX.out) (by omega)).trans HX.out)
          clear hw1
          go_wp2_with fail
          gi_wp2_with fail
          obtain ⟨wx, hwx⟩ : ∃ wx, wx = w1 := ⟨_, rfl⟩
          subst hwx
          refine region_round (by kernel_rfl) (by rintro ⟨_, _, h⟩; exact h) (by kernel_rfl) ?_
          refine reg_seq 33 (fun w1 => Below (wx).heap.size (wx) w1) (by kernel_rfl) (by kernel_rfl) ⟨rfl, rfl, rfl, Nat.le_refl _, fun _ _ => rfl⟩ ?_
          dsimp only [List.take]
          iterate 33
            refine Seq.cons (a' := ?_) ?_ ?_ ?_
            rotate_left
            ·
              intro w1 hw1
              have k3 := cell_of (blk_below H31.out hw1 (lt_of_block H31.out)) 0
              have k5 := cell_of (blk_below H51.out hw1 (lt_of_block H51.out)) 0
              have hr := HR1.out.keep hw1
              obtain ⟨s0, sf⟩ := hr.head
              clear hr
              go_wp2_with (fail)
              refine ⟨?_, by first | assumption | (simpa using below_chain hw1 hb hw1.size)⟩
              exact rfl
            · kernel_rfl
          refine SeqI.nil ?_
          intro _ w1 _ hw1
          dsimp only [List.drop]
          have h4 := blk_below ((HM1.out.block _ (lt_of_block HI.out.b4) (by omega)).trans HI.out.b4) hw1 (by have := lt_of_block HI.out.b4; have := HM1.out.size; omega)
          have k4 := cell_of h4 0
          have f4 := free_of h4
          have HM2 : Hid (Mod (· = H) W w1) := hid (HM1.out.trans (Mod.ofBelow (S := (· = H)) hw1) (fun _ _ h => h))
          clear hw1 h4
          go_wp2_with fail
          gi_wp2_with fail
          exact ⟨(keeps_mod HM2.out (by omega)).trans ((KeepsOthers.setCell _ _ _).from _), rfl, HNP.out⟩
  case done =>
    rintro D ys W hD rfl hI hK
    obtain ⟨p, hp1, hpl, hp5⟩ := hI.pos
    have HI := hid hI
    have HP5 := hid hp5
    have HPL := hid hpl
    have HK := hid hK
    have hHg : H ≠ g2 := by
      intro e
      have h1 := HI.out.ra.hc.hg
      obtain ⟨cs, h1, _⟩ := h1
      rw [← e, hp5] at h1
      simp at h1
    have hHb : H ≠ b2 := by
      intro e
      have h1 := HI.out.ra.hb
      rw [← e, hp5] at h1
      simp at h1
    clear hI hp5 hpl hK
    go_wp2_with fail
    go_loopw [] (fun wr => ∃ q : Nat, q ≤ l.length ∧ ups l q = lives l ∧ wr.heap[H]? = some (.cells #[.int .i64 q] 3) ∧ Mod (· = H) W wr) (fun wr => l.length - posOf H wr)
    case atStart => exact ⟨p, hp1, HPL.out.symm, HP5.out, Mod.refl _ _⟩
    case round =>
      obtain ⟨q, hq, hu, h5, hM⟩ := hrel
      have h3 := (hM.block _ (lt_of_block HI.out.b3) (by omega)).trans HI.out.b3
      have hra := HI.out.ra.mod hM (fun e => hHb e.symm) (fun e => hHg e.symm)
      have H3 := hid h3
      have HRA := hid hra
      have H5 := hid h5
      have HU := hid hu
      have HM := hid hM
      clear h3 hra h5 hu hM
      by_cases hlt : q < l.length
      · as_aux_lemma =>
          have hi : l[q]? = some l[q] := List.getElem?_eq_getElem hlt
          have HIQ := hid hi
          generalize l[q] = c at hi HIQ
          clear hi
          have hci : c.is = false := no_more HU.out HIQ.out
          go_wp2_with fail
          refine wp_region_seq 18 (fun w1 => Below (wr).heap.size (wr) w1) (by kernel_rfl) (by kernel_rfl) (by kernel_rfl) ⟨rfl, rfl, rfl, Nat.le_refl _, fun _ _ => rfl⟩ ?_
          dsimp only [List.take]
          iterate 18
            refine Seq.cons (a' := ?_) ?_ ?_ ?_
            rotate_left
            ·
              intro w1 hw1
              have k3 := cell_of (blk_below H3.out hw1 (lt_of_block H3.out)) 0
              have k5 := cell_of (blk_below H5.out hw1 (lt_of_block H5.out)) 0
              have hr := HRA.out.keep hw1
              obtain ⟨s0, sf⟩ := hr.head
              obtain ⟨c0, c1, c2, cf, _, _⟩ := hr.hc.cell HIQ.out
              rw [hci] at c0
              clear hr c1 c2
              go_wp2_with (fail)
              refine ⟨?_, by first | assumption | (simpa using below_chain hw1 hb hw1.size)⟩
              exact rfl
            · kernel_rfl
          refine SeqI.nil ?_
          intro _ w1 _ hw1
          dsimp only [List.drop]
          have h51 := blk_below H5.out hw1 (lt_of_block H5.out)
          have k5 := cell_of h51 0
          have f5 := free_of h51
          have H51 := hid h51
          have HM1 : Hid (Mod (· = H) W w1) := hid (HM.out.trans (Mod.ofBelow (S := (· = H)) hw1) (fun _ _ h => h))
          clear hw1 h51
          go_wp2_with fail
          have h6 : (w1.setCell ⟨H, 0, none⟩ (.int .i64 ((q : Int) + 1))).heap[H]? = some (.cells #[.int .i64 ((q + 1 : Nat) : Int)] 3) := by simpa using heap_set (i := 0) (v := .int .i64 ((q : Int) + 1)) H51.out
          go_roundw
          case rel => exact ⟨q + 1, by omega, (ups_no HIQ.out hci).trans HU.out, h6, HM1.out.setCell (.inl rfl) _⟩
          case measure =>
            rw [posOf_eq h6, posOf_eq H5.out]
            omega
      · obtain rfl : q = l.length := by omega
        as_aux_lemma =>
          go_wp2_with fail
          refine wp_region_seq 18 (fun w1 => Below (wr).heap.size (wr) w1) (by kernel_rfl) (by kernel_rfl) (by kernel_rfl) ⟨rfl, rfl, rfl, Nat.le_refl _, fun _ _ => rfl⟩ ?_
          dsimp only [List.take]
          iterate 18
            refine Seq.cons (a' := ?_) ?_ ?_ ?_
            rotate_left
            ·
              intro w1 hw1
              have k3 := cell_of (blk_below H3.out hw1 (lt_of_block H3.out)) 0
              have k5 := cell_of (blk_below H5.out hw1 (lt_of_block H5.out)) 0
              have hr := HRA.out.keep hw1
              obtain ⟨s0, sf⟩ := hr.head
              clear hr
              go_wp2_with (fail)
              refine ⟨?_, by first | assumption | (simpa using below_chain hw1 hb hw1.size)⟩
              exact rfl
            · kernel_rfl
          refine SeqI.nil ?_
          intro _ w1 _ hw1
          dsimp only [List.drop]
          have H51 := hid (blk_below H5.out hw1 (lt_of_block H5.out))
          have H31 := hid (blk_below H3.out hw1 (lt_of_block H3.out))
          have HR1 := hid (HRA.out.keep hw1)
          have HM1 : Hid (Mod (· = H) W w1) := hid (HM.out.trans (Mod.ofBelow (S := (· = H)) hw1) (fun _ _ h => h))
          clear hw1
          go_wp2_with fail
          obtain ⟨wx, hwx⟩ : ∃ wx, wx = w1 := ⟨_, rfl⟩
          subst hwx
          refine wp_region_seq 7 (fun w1 => Below (wx).heap.size (wx) w1) (by kernel_rfl) (by kernel_rfl) (by kernel_rfl) ⟨rfl, rfl, rfl, Nat.le_refl _, fun _ _ => rfl⟩ ?_
          dsimp only [List.take]
          iterate 7
            refine Seq.cons (a' := ?_) ?_ ?_ ?_
            rotate_left
            ·
              intro w1 hw1
              have k3 := cell_of (blk_below H31.out hw1 (lt_of_block H31.out)) 0
              have k5 := cell_of (blk_below H51.out hw1 (lt_of_block H51.out)) 0
              have hr := HR1.out.keep hw1
              obtain ⟨s0, sf⟩ := hr.head
              clear hr
              go_wp2_with (fail)
              refine ⟨?_, by first | assumption | (simpa using below_chain hw1 hb hw1.size)⟩
              exact rfl
            · kernel_rfl
          refine SeqI.nil ?_
          intro _ w1 _ hw1
          dsimp only [List.drop]
          have h4 := blk_below ((HM1.out.block _ (lt_of_block HI.out.b4) (by omega)).trans HI.out.b4) hw1 (by have := lt_of_block HI.out.b4; have := HM1.out.size; omega)
          have hk := blk_below ((HM1.out.block _ (lt_of_block HK.out) (by omega)).trans HK.out) hw1 (by have := lt_of_block HK.out; have := HM1.out.size; omega)
          have k4 := cell_of h4 0
          have f4 := free_of h4
          have HKK := hid hk
          have HM2 : Hid (Mod (· = H) W w1) := hid (HM1.out.trans (Mod.ofBelow (S := (· = H)) hw1) (fun _ _ h => h))
          have HBB : Hid (Below w.heap.size w w1) := hid (HI.out.bel.trans (HM2.out.below HI.out.bel.size (fun i hi e => by omega)))
          have hlz := HI.out.lz
          have hsz2 := HM2.out.size
          clear hw1 h4 hk
          go_wp2_with fail
          have hK' := (KeepsOthers.setCell w1 ⟨w.heap.size + 1, 0, none⟩ (.bool true)).same D _ HKK.out rfl
          refine ⟨by simp, .inl ⟨_, _, rfl, run_takeDeferred hK', ?_⟩⟩
          have hc5 := cell_kept (World.cell?_setCell_same' w1 ⟨w.heap.size + 1, 0, none⟩ (.bool true) (by rw [k4]; rfl)) (grownBy_putObj' _ D (.deferred none)) (fun r e => by cases e; exact ⟨_, hK', rfl⟩)
          refine ⟨.bool true, ?_, rfl, (HBB.out.setCell (p := ⟨w.heap.size + 1, 0, none⟩) (by simp) _).trans (belowK_b (w := w) (Nat.le_refl _) _ D _ _ (by omega) hK' rfl rfl)⟩
          simp [results, Try.results19, go_sem, hc5]
  case stop =>
    rintro D c pre W hD hp ⟨_, hn⟩ _
    exact absurd hp hn
end Go.Proofs.Ytmgiaedfonaefaa.C
