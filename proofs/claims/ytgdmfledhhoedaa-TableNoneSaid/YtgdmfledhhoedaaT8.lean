/- Gates: Reserve. -/
import Derived.Test.YtgdmfledhhoedaaT7
import Derived.Test.YtgdmfledhhoedaaTurn4
import Derived.BigQuiet
namespace Go.Proofs.Ytgdmfledhhoedaa.T
set_option maxRecDepth 8000
open Go.ChangeShapes Go.WideShapes Go.ChangeAt Go.RowKit Go.Burg
open Go.Burg.Purse (St Inv)

/-- What becomes of the purse when the gate's reservation is closed. -/
def closeSt (s : St) (g : Gt) : St := if g.p.isSome then (s.ref g.tk).2 else s
theorem closeSt_inv {s : St} {g : Gt} (h : Inv s) : Inv (closeSt s g) := by
  unfold closeSt
  split
  · exact h.ref _
  · exact h
theorem closeSt_last {s : St} {g : Gt} : (closeSt s g).last = s.last := by
  unfold closeSt St.ref
  split
  · split <;> rfl
  · rfl

theorem gRefund_at {gb pb pm : Nat} {g : Gt} {s : St} (w : World) (h : w.heap[gb]? = some (GBlk g)) (hp : g.p = none ∨ g.p = some pb) (hP : PurseAt w pb pm s) (hI : Inv s) (n1 : gb ≠ pb) (n2 : gb ≠ pm) :
    Calls Try.prog 99 #[.pointer (some ⟨gb, 0, none⟩)] w fun e w' => e = .returned (.tuple #[]) ∧ w'.heap[gb]? = some (GBlk { g with p := none }) ∧ PurseAt w' pb pm (closeSt s g) ∧ Mod (GOwn gb pb pm) w w' := by
  rcases hp with hp | hp
  · refine (gRefund_no w h hp).mono ?_
    rintro e w' ⟨rfl, rfl⟩
    have e1 : closeSt s g = s := by simp [closeSt, hp]
    have e2 : ({ g with p := none } : Gt) = g := by cases g; simp only at hp; subst hp; rfl
    rw [e1, e2]
    exact ⟨rfl, h, hP, Mod.refl _ _⟩
  · refine (gRefund_yes w h hp hP hI n1 n2).mono ?_
    rintro e w' ⟨rfl, h1, h2, h3⟩
    have e1 : closeSt s g = (s.ref g.tk).2 := by simp [closeSt, hp]
    rw [e1]
    exact ⟨rfl, h1, h2, h3⟩

theorem gReserve_may {gb pb pm t : Nat} {l : Nat → Ten} {g : Gt} {s : St} (k y : Int) (v : Int) (w : World) (h : w.heap[gb]? = some (GBlk g)) (hT : TabAt 42 w g.x t l) (hgp : g.p = none ∨ g.p = some pb) (hP : PurseAt w pb pm s) (hI : Inv s) (n1 : gb ≠ pb) (n2 : gb ≠ pm) (nx : ¬ GOwn gb pb pm g.x)
    (htn : mayI l g.tn g.gn g.rt g.d = v) (hv : v ≠ 0) :
    Calls Try.prog 100 #[.pointer (some ⟨gb, 0, none⟩), .agg #[.int .i64 k, .int .i64 y]] w fun e w' => e = .returned (.int .i64 v) ∧ w'.heap[gb]? = some (GBlk { g with p := none }) ∧ PurseAt w' pb pm (closeSt s g) ∧ Mod (GOwn gb pb pm) w w' := by
  have hgl := lt_of_block h
  have hpl := hP.lt
  have hxl := hT.lt
  have hR := gRefund_at _ (blk_alloc (o' := (.cells #[.int .i64 k, .int .i64 y] 66)) h) hgp (hP.alloc (.cells #[.int .i64 k, .int .i64 y] 66)) hI n1 n2
  have HT := hid (hT.alloc (.cells #[.int .i64 k, .int .i64 y] 66))
  have HN := hid (heap_new w (.cells #[.int .i64 k, .int .i64 y] 66))
  have HR := hid hR
  have HI := hid (closeSt_inv (g := g) hI)
  obtain ⟨gx, tn, gn, rt, d, gp, tk, l0, l1⟩ := g
  simp only at nx htn HT hgp hxl
  clear hR h hT hP hI hgp
  have HX := hid nx
  clear nx
  go_enter Try.func100, Try.ntmps100
  go_wp2_with (go_at_call 99; refine HR.out.mono ?_; rintro e wa ⟨rfl, hG, hP, hM⟩)
  have hw0 : Below w.heap.size w (w.alloc (.cells #[.int .i64 k, .int .i64 y] 66)) := (Below.refl _ _).alloc (Nat.le_refl _) _
  have HM0 : Hid (Mod (GOwn gb pb pm) w wa) := hid ((Mod.ofBelow hw0).trans hM (fun _ _ h => h))
  have HTa := hid (HT.out.mod hM HX.out)
  have HNa := hid ((hM.block w.heap.size (by simp) (fun e => by rcases e with e | e | e <;> omega)).trans HN.out)
  have HGa := hid hG
  have HPa := hid hP
  clear hM hG hP hw0 HT HN HR
  have HY := hid (fun (w1 : World) (hw1 : Below wa.heap.size wa w1) => May_at tn gn rt d w1 (HTa.out.keep hw1))
  rw [htn] at HY
  have gv : (v != 0) = true := by simpa using hv
  clear htn hv
  go_wp2_with fail
  refine wp_region_seq 14 (fun w1 => Below (wa).heap.size (wa) w1) (by kernel_rfl) (by kernel_rfl) (by kernel_rfl) ⟨rfl, rfl, rfl, Nat.le_refl _, fun _ _ => rfl⟩ ?_
  dsimp only [List.take]
  iterate 14
    refine Seq.cons (a' := ?_) ?_ ?_ ?_
    rotate_left
    ·
      intro w1 hw1
      have hG1 := blk_below HGa.out hw1 (lt_of_block HGa.out)
      obtain ⟨c0, c1, c2, c3, c4, c5, c6, c7, c8, cf⟩ := gfacts hG1
      simp only [Option.map_none] at c0 c1 c2 c3 c4 c5 c6 c7 c8
      clear hG1
      go_wp2_with (go_at_call 14; refine (HY.out _ hw1).mono ?_; rintro e w' ⟨rfl, hb⟩)
      refine ⟨?_, by first | assumption | (simpa using below_chain hw1 hb hw1.size)⟩
      exact rfl
    · kernel_rfl
  refine SeqI.nil ?_
  intro _ w1 _ hw1
  dsimp only [List.drop]
  go_wp2
  go_ret
  exact ⟨rfl, blk_below HGa.out hw1 (lt_of_block HGa.out), HPa.out.keep hw1, HM0.out.trans (Mod.ofBelow hw1) (fun _ _ h => h)⟩

/-- A gate in the midst of its stores. -/
def midg (g : Gt) (pb : Nat) (n a b : Int) (b1 b2 b3 : Bool) : Gt := { g with p := cond b1 (some pb) none, tk := cond b2 n g.tk, l0 := cond b3 a g.l0, l1 := cond b3 b g.l1 }
def MidAt (w : World) (gb : Nat) (g : Gt) (pb : Nat) (n a b : Int) (b1 b2 b3 : Bool) (w1 : World) : Prop := Mod (· = gb) w w1 ∧ w1.heap[gb]? = some (GBlk (midg g pb n a b b1 b2 b3))
theorem MidAt.one {w w1 : World} {gb : Nat} {g : Gt} {pb : Nat} {n a b : Int} {b2 b3 : Bool} (h : MidAt w gb g pb n a b false b2 b3 w1) : MidAt w gb g pb n a b true b2 b3 (w1.setCell ⟨gb, 5, none⟩ (.pointer (some ⟨pb, 0, none⟩))) :=
  ⟨Mod.setCell (S := (· = gb)) (p := ⟨gb, 5, none⟩) h.1 (.inl rfl) _, set_at h.2 rfl⟩
theorem MidAt.two {w w1 : World} {gb : Nat} {g : Gt} {pb : Nat} {n a b : Int} {b1 b3 : Bool} (h : MidAt w gb g pb n a b b1 false b3 w1) : MidAt w gb g pb n a b b1 true b3 (w1.setCell ⟨gb, 6, none⟩ (.int .i64 n)) :=
  ⟨Mod.setCell (S := (· = gb)) (p := ⟨gb, 6, none⟩) h.1 (.inl rfl) _, set_at h.2 rfl⟩
theorem MidAt.three {w w1 : World} {gb : Nat} {g : Gt} {pb : Nat} {n a b : Int} {b1 b2 : Bool} (h : MidAt w gb g pb n a b b1 b2 false w1) : MidAt w gb g pb n a b b1 b2 true ((w1.setCell ⟨gb, 7, none⟩ (.int .u64 a)).setCell ⟨gb, 8, none⟩ (.int .u64 b)) :=
  ⟨Mod.setCell (S := (· = gb)) (p := ⟨gb, 8, none⟩) (Mod.setCell (S := (· = gb)) (p := ⟨gb, 7, none⟩) h.1 (.inl rfl) _) (.inl rfl) _, set_at (set_at (cs' := #[.pointer (some ⟨g.x, 0, none⟩), .int .i64 g.tn, .int .u32 g.gn, .int .u8 g.rt, .int .i64 g.d, .pointer ((cond b1 (some pb) none).map fun b => ⟨b, 0, none⟩), .int .i64 (cond b2 n g.tk), .int .u64 a, .int .u64 g.l1]) h.2 rfl) rfl⟩

/-- What a gate is behind a reservation. -/
def resG (g : Gt) (pb : Nat) (k y : Int) (r : Int × Int × St) : Gt := if r.2.1 = 0 then { g with p := some pb, tk := r.1, l0 := max (-k) 0, l1 := max (-y) 0 } else { g with p := none }
set_option maxHeartbeats 4000000 in
theorem gReserve_ok {gb pb pm t n : Nat} {l : Nat → Ten} {g : Gt} {s : St} (k y : Int) (w : World) (h : w.heap[gb]? = some (GBlk g)) (hT : TabAt 42 w g.x t l) (hgp : g.p = none ∨ g.p = some pb) (hP : PurseAt w pb pm s) (hI : Inv s) (n1 : gb ≠ pb) (n2 : gb ≠ pm) (nx : ¬ GOwn gb pb pm g.x)
    (htn : mayI l g.tn g.gn g.rt g.d = 0) (hn : g.tn = n) (hn1 : n ≤ 16) (hlp : (l n).purse = some pb) (hls : s.last < 4000000000) (hk : -9223372036854775808 ≤ k ∧ k ≤ 9223372036854775807) (hy : -9223372036854775808 ≤ y ∧ y ≤ 9223372036854775807) :
    Calls Try.prog 100 #[.pointer (some ⟨gb, 0, none⟩), .agg #[.int .i64 k, .int .i64 y]] w fun e w' => e = .returned (.int .i64 ((closeSt s g).res (max k 0) (max y 0)).2.1) ∧ w'.heap[gb]? = some (GBlk (resG g pb k y ((closeSt s g).res (max k 0) (max y 0)))) ∧ PurseAt w' pb pm ((closeSt s g).res (max k 0) (max y 0)).2.2 ∧ Mod (GOwn gb pb pm) w w' := by
  have HLS : Hid ((closeSt s g).last < 4000000000) := hid (by rw [closeSt_last]; exact hls)
  have hgx : g.x ≠ gb := fun e => nx (.inl e)
  have hgl := lt_of_block h
  have hpl := hP.lt
  have hxl := hT.lt
  have hR := gRefund_at _ (blk_alloc (o' := (.cells #[.int .i64 k, .int .i64 y] 66)) h) hgp (hP.alloc (.cells #[.int .i64 k, .int .i64 y] 66)) hI n1 n2
  have HT := hid (hT.alloc (.cells #[.int .i64 k, .int .i64 y] 66))
  have HN := hid (heap_new w (.cells #[.int .i64 k, .int .i64 y] 66))
  have HR := hid hR
  have HI := hid (closeSt_inv (g := g) hI)
  obtain ⟨gx, tn, gn, rt, d, gp, tk, l0, l1⟩ := g
  simp only at nx htn HT hgp hxl
  clear hR h hT hP hI hgp
  have HX := hid nx
  clear nx
  go_enter Try.func100, Try.ntmps100
  go_wp2_with (go_at_call 99; refine HR.out.mono ?_; rintro e wa ⟨rfl, hG, hP, hM⟩)
  have hw0 : Below w.heap.size w (w.alloc (.cells #[.int .i64 k, .int .i64 y] 66)) := (Below.refl _ _).alloc (Nat.le_refl _) _
  have HM0 : Hid (Mod (GOwn gb pb pm) w wa) := hid ((Mod.ofBelow hw0).trans hM (fun _ _ h => h))
  have HTa := hid (HT.out.mod hM HX.out)
  have HNa := hid ((hM.block w.heap.size (by simp) (fun e => by rcases e with e | e | e <;> omega)).trans HN.out)
  have HGa := hid hG
  have HPa := hid hP
  clear hM hG hP hw0 HT HN HR
  have HY := hid (fun (w1 : World) (hw1 : Below wa.heap.size wa w1) => May_at tn gn rt d w1 (HTa.out.keep hw1))
  rw [htn] at HY
  clear htn hls
  subst hn
  go_wp2_with fail
  refine wp_region_seq 14 (fun w1 => Below (wa).heap.size (wa) w1) (by kernel_rfl) (by kernel_rfl) (by kernel_rfl) ⟨rfl, rfl, rfl, Nat.le_refl _, fun _ _ => rfl⟩ ?_
  dsimp only [List.take]
  iterate 14
    refine Seq.cons (a' := ?_) ?_ ?_ ?_
    rotate_left
    ·
      intro w1 hw1
      have hG1 := blk_below HGa.out hw1 (lt_of_block HGa.out)
      obtain ⟨c0, c1, c2, c3, c4, c5, c6, c7, c8, cf⟩ := gfacts hG1
      simp only [Option.map_none] at c0 c1 c2 c3 c4 c5 c6 c7 c8
      clear hG1
      go_wp2_with (go_at_call 14; refine (HY.out _ hw1).mono ?_; rintro e w' ⟨rfl, hb⟩)
      refine ⟨?_, by first | assumption | (simpa using below_chain hw1 hb hw1.size)⟩
      exact rfl
    · kernel_rfl
  refine SeqI.nil ?_
  intro _ w1 _ hw1
  dsimp only [List.drop]
  have HGb := hid (blk_below HGa.out hw1 (lt_of_block HGa.out))
  have HNb := hid (blk_below HNa.out hw1 (lt_of_block HNa.out))
  have HPb := hid (HPa.out.keep hw1)
  have HTb := hid (HTa.out.keep hw1)
  have HMb := hid (HM0.out.trans (Mod.ofBelow hw1) (fun _ _ h => h))
  obtain ⟨wb, rfl⟩ : ∃ x, x = w1 := ⟨_, rfl⟩
  clear hw1 HGa HNa HPa HTa HM0 HY
  go_wp2_with fail
  have HCL := hid (show n < 17 by omega)
  refine wp_region_seq 15 (fun w1 => Below (wb).heap.size (wb) w1) (by kernel_rfl) (by kernel_rfl) (by kernel_rfl) ⟨rfl, rfl, rfl, Nat.le_refl _, fun _ _ => rfl⟩ ?_
  dsimp only [List.take]
  iterate 15
    refine Seq.cons (a' := ?_) ?_ ?_ ?_
    rotate_left
    ·
      intro w1 hw1
      have hG1 := blk_below HGb.out hw1 (lt_of_block HGb.out)
      obtain ⟨c0, c1, c2, c3, c4, c5, c6, c7, c8, cf⟩ := gfacts hG1
      simp only [Option.map_none] at c0 c1 c2 c3 c4 c5 c6 c7 c8
      clear hG1
      obtain ⟨_, _, _, t3⟩ := (HTb.out.keep hw1).cell HCL.out
      rw [hlp] at t3
      simp only [Option.map_some] at t3
      go_wp2_with (fail)
      refine ⟨?_, by first | assumption | (simpa using below_chain hw1 hb hw1.size)⟩
      exact rfl
    · kernel_rfl
  refine SeqI.nil ?_
  intro _ w1 _ hw1
  dsimp only [List.drop]
  have HGc := hid (blk_below HGb.out hw1 (lt_of_block HGb.out))
  have HNc := hid (blk_below HNb.out hw1 (lt_of_block HNb.out))
  have HPc := hid (HPb.out.keep hw1)
  have HMc := hid (HMb.out.trans (Mod.ofBelow hw1) (fun _ _ h => h))
  obtain ⟨wc, rfl⟩ : ∃ x, x = w1 := ⟨_, rfl⟩
  clear hw1 HGb HNb HPb HTb HMb
  go_wp2_with fail
  have hnn : ¬ Own pb pm w.heap.size := fun e => by rcases e with e | e <;> omega
  have hngb : ¬ Own pb pm gb := fun e => e.elim n1 n2
  have HS : Hid (PurseAt wc.drew pb pm (closeSt s ⟨gx, n, gn, rt, d, gp, tk, l0, l1⟩)) := hid (HPc.out.mod (Mod.refl (fun _ => False) wc).drew (fun h => h) (fun h => h))
  have HKY := hid (And.intro hk hy)
  have hm0 : 0 ≤ max k 0 := by omega
  have hm1 : 0 ≤ max y 0 := by omega
  clear hk hy hgx hlp
  generalize hs1 : closeSt s ⟨gx, n, gn, rt, d, gp, tk, l0, l1⟩ = s1 at *
  have HS1 := hid hs1
  clear hs1
  refine wp_region_seqI 13 (Turn 7 (fun w1 => Mod (Own pb pm) wc w1 ∧ PurseAt w1 pb pm s1) (fun w1 => Mod (Own pb pm) wc w1 ∧ PurseAt w1 pb pm (s1.res (max k 0) (max y 0)).2.2)) (by kernel_rfl) (by kernel_rfl) (by kernel_rfl) (Turn.start ⟨(Mod.refl (Own pb pm) wc).drew, HS.out⟩) ?_
  dsimp only [List.take]
  iterate 7
    refine Seq.calm (a' := ?_) (by decide) ?_ ?_ ?_
    rotate_left
    ·
      intro w1 hw1
      have hM : Mod (Own pb pm) wc w1 := hw1.elim (·.1) (·.1)
      have hN1 := (hM.block w.heap.size (lt_of_block HNc.out) hnn).trans HNc.out
      have m0 := cell_of hN1 0
      have m1 := cell_of hN1 1
      clear hN1 hM hw1
      go_wp2_with (go_at_call 102; first | (refine (up_any k _ HKY.out.1.1 HKY.out.1.2).mono ?_; rintro e w2 ⟨rfl, rfl⟩) | (refine (up_any y _ HKY.out.2.1 HKY.out.2.2).mono ?_; rintro e w2 ⟨rfl, rfl⟩))
      first | (refine ⟨?_, id, id⟩; exact rfl) | (refine ⟨?_, fail⟩; exact rfl)
    · kernel_rfl
  refine Seq.turn (a' := ?_) ?_ ?_ ?_
  rotate_left
  ·
    intro w1 hw1
    have HM := hid hw1.1
    have HP := hid hw1.2
    clear hw1
    go_wp2_with (go_at_call 88; refine (reserve_at HP.out HI.out HLS.out _ _ hm0 hm1).mono ?_; rintro e w2 ⟨rfl, hP, hX⟩)
    refine ⟨?_, HM.out.trans hX (fun _ _ h => h), hP⟩
    exact rfl
  · kernel_rfl
  iterate 5
    refine Seq.calm (a' := ?_) (by decide) ?_ ?_ ?_
    rotate_left
    ·
      intro w1 hw1
      have hM : Mod (Own pb pm) wc w1 := hw1.elim (·.1) (·.1)
      have hN1 := (hM.block w.heap.size (lt_of_block HNc.out) hnn).trans HNc.out
      have m0 := cell_of hN1 0
      have m1 := cell_of hN1 1
      clear hN1 hM hw1
      go_wp2_with (go_at_call 102; first | (refine (up_any k _ HKY.out.1.1 HKY.out.1.2).mono ?_; rintro e w2 ⟨rfl, rfl⟩) | (refine (up_any y _ HKY.out.2.1 HKY.out.2.2).mono ?_; rintro e w2 ⟨rfl, rfl⟩))
      first | (refine ⟨?_, id, id⟩; exact rfl) | (refine ⟨?_, fail⟩; exact rfl)
    · kernel_rfl
  refine SeqI.nil ?_
  intro D w1 hD hI
  replace hI := hI.done (hD 7 (by omega))
  clear hD
  dsimp only [List.drop]
  obtain ⟨wd, rfl⟩ : ∃ x, x = w1 := ⟨_, rfl⟩
  have hcase : (s1.res (max k 0) (max y 0)).2.1 = 0 ∨ (s1.res (max k 0) (max y 0)).2.1 = 10 := by
    unfold St.res
    split
    · exact .inl rfl
    · exact .inr rfl
  have HGd := hid ((hI.1.block gb (lt_of_block HGc.out) hngb).trans HGc.out)
  have HNd := hid ((hI.1.block w.heap.size (lt_of_block HNc.out) hnn).trans HNc.out)
  have HMd := hid (HMc.out.trans hI.1 (fun _ _ h => .inr h))
  have HPd := hid hI.2
  clear hI HGc HNc HPc HMc HS
  generalize hr : s1.res (max k 0) (max y 0) = r at *
  have HR1 := hid hr
  clear hr
  obtain ⟨nt, er, s2⟩ := r
  simp only at hcase HPd
  rcases hcase with rfl | rfl
  · go_wp2_with fail
    have hne : w.heap.size ≠ gb := by omega
    have HS0 : Hid (MidAt wd gb ⟨gx, n, gn, rt, d, none, tk, l0, l1⟩ pb nt (max (-k) 0) (max (-y) 0) false false false wd.drew) := hid ⟨(Mod.refl _ _).drew, HGd.out⟩
    refine wp_region_seqC 21 (Turn4 14 17 20 99 (fun b1 b2 b3 _ w2 => MidAt wd gb ⟨gx, n, gn, rt, d, none, tk, l0, l1⟩ pb nt (max (-k) 0) (max (-y) 0) b1 b2 b3 w2)) (by kernel_rfl) (by kernel_rfl) (by kernel_rfl) (Turn4.start HS0.out) ?_
    dsimp only [List.take]
    iterate 14
      refine Seq4.calm (a' := ?_) (by decide) (by decide) (by decide) (by decide) ?_ ?_ ?_
      rotate_left
      ·
        intro b1 b2 b3 b4 w1 e1 f1 e2 f2 e3 f3 e4 f4 hw1
        have HW1 := hid hw1
        have hN1 := (hw1.1.block w.heap.size (lt_of_block HNd.out) hne).trans HNd.out
        have m0 := cell_of hN1 0
        have m1 := cell_of hN1 1
        clear hw1 hN1 e1 f1 e2 f2 e3 f3 e4 f4
        go_wp2_with (go_at_call 103; first | (refine (down_any k _ HKY.out.1.1 HKY.out.1.2).mono ?_; rintro e w2 ⟨rfl, rfl⟩) | (refine (down_any y _ HKY.out.2.1 HKY.out.2.2).mono ?_; rintro e w2 ⟨rfl, rfl⟩))
        refine ⟨?_, HW1.out⟩
        exact rfl
      · kernel_rfl
    refine Seq4.at1 (a' := ?_) (by decide) (by decide) (by decide) ?_ ?_ ?_
    rotate_left
    ·
      intro b2 b3 b4 w1 e2 f2 e3 f3 e4 f4 hw1
      have HW1 := hid hw1.one
      obtain ⟨c0, c1, c2, c3, c4, c5, c6, c7, c8, cf⟩ := gfacts hw1.2
      clear hw1 e2 f2 e3 f3 e4 f4
      go_wp2_with fail
      refine ⟨?_, HW1.out⟩
      exact rfl
    · kernel_rfl
    iterate 2
      refine Seq4.calm (a' := ?_) (by decide) (by decide) (by decide) (by decide) ?_ ?_ ?_
      rotate_left
      ·
        intro b1 b2 b3 b4 w1 e1 f1 e2 f2 e3 f3 e4 f4 hw1
        have HW1 := hid hw1
        have hN1 := (hw1.1.block w.heap.size (lt_of_block HNd.out) hne).trans HNd.out
        have m0 := cell_of hN1 0
        have m1 := cell_of hN1 1
        clear hw1 hN1 e1 f1 e2 f2 e3 f3 e4 f4
        go_wp2_with (go_at_call 103; first | (refine (down_any k _ HKY.out.1.1 HKY.out.1.2).mono ?_; rintro e w2 ⟨rfl, rfl⟩) | (refine (down_any y _ HKY.out.2.1 HKY.out.2.2).mono ?_; rintro e w2 ⟨rfl, rfl⟩))
        refine ⟨?_, HW1.out⟩
        exact rfl
      · kernel_rfl
    refine Seq4.at2 (a' := ?_) (by decide) (by decide) (by decide) ?_ ?_ ?_
    rotate_left
    ·
      intro b1 b3 b4 w1 e1 f1 e3 f3 e4 f4 hw1
      have HW1 := hid hw1.two
      obtain ⟨c0, c1, c2, c3, c4, c5, c6, c7, c8, cf⟩ := gfacts hw1.2
      clear hw1 e1 f1 e3 f3 e4 f4
      go_wp2_with fail
      refine ⟨?_, HW1.out⟩
      exact rfl
    · kernel_rfl
    iterate 2
      refine Seq4.calm (a' := ?_) (by decide) (by decide) (by decide) (by decide) ?_ ?_ ?_
      rotate_left
      ·
        intro b1 b2 b3 b4 w1 e1 f1 e2 f2 e3 f3 e4 f4 hw1
        have HW1 := hid hw1
        have hN1 := (hw1.1.block w.heap.size (lt_of_block HNd.out) hne).trans HNd.out
        have m0 := cell_of hN1 0
        have m1 := cell_of hN1 1
        clear hw1 hN1 e1 f1 e2 f2 e3 f3 e4 f4
        go_wp2_with (go_at_call 103; first | (refine (down_any k _ HKY.out.1.1 HKY.out.1.2).mono ?_; rintro e w2 ⟨rfl, rfl⟩) | (refine (down_any y _ HKY.out.2.1 HKY.out.2.2).mono ?_; rintro e w2 ⟨rfl, rfl⟩))
        refine ⟨?_, HW1.out⟩
        exact rfl
      · kernel_rfl
    refine Seq4.at3 (a' := ?_) (by decide) (by decide) (by decide) ?_ ?_ ?_
    rotate_left
    ·
      intro b1 b2 b4 w1 e1 f1 e2 f2 e4 f4 hw1
      have HW1 := hid hw1.three
      obtain ⟨c0, c1, c2, c3, c4, c5, c6, c7, c8, cf⟩ := gfacts hw1.2
      clear hw1 e1 f1 e2 f2 e4 f4
      go_wp2_with fail
      refine ⟨?_, HW1.out⟩
      exact rfl
    · kernel_rfl
    refine SeqC.nil ?_
    intro D w2 hD hI
    obtain ⟨_, hI⟩ := hI.done3 (hD 14 (by omega)) (hD 17 (by omega)) (hD 20 (by omega))
    clear hD
    dsimp only [List.drop]
    have hMe := hI.1
    have HGe := hid hI.2
    have HPe := hid (HPd.out.mod hMe (Ne.symm n1) (Ne.symm n2))
    have HMe := hid (HMd.out.trans hMe (fun _ _ h => .inl h))
    clear hI hMe HS0 HPd HGd HMd HNd
    go_wp2
    go_ret
    rw [HS1.out, HR1.out]
    exact ⟨rfl, HGe.out, HPe.out, HMe.out⟩
  · go_wp2
    go_ret
    rw [HS1.out, HR1.out]
    exact ⟨rfl, HGd.out, HPd.out, HMd.out⟩
end Go.Proofs.Ytgdmfledhhoedaa.T
