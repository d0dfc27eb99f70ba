/- Gates: Refund, Commit. -/
import Derived.Test.YtgdmfledhhoedaaT6
namespace Go.Burg
open Go Go.RowKit
/-- A gate: its table, its handle, its deed, its purse, its ticket, what is paid back. -/
structure Gt where
  x : Nat
  tn : Int
  gn : Int
  rt : Int
  d : Int
  p : Option Nat
  tk : Int
  l0 : Int
  l1 : Int
end Go.Burg
namespace Go.Proofs.Ytgdmfledhhoedaa.T
set_option maxRecDepth 8000
open Go.ChangeShapes Go.WideShapes Go.ChangeAt Go.RowKit Go.Burg
open Go.Burg.Purse (St Inv)
def GBlk (g : Gt) : Obj := .cells #[.pointer (some ⟨g.x, 0, none⟩), .int .i64 g.tn, .int .u32 g.gn, .int .u8 g.rt, .int .i64 g.d, .pointer (g.p.map fun b => ⟨b, 0, none⟩), .int .i64 g.tk, .int .u64 g.l0, .int .u64 g.l1] 76 (0, 0)
theorem gfacts {w : World} {b : Nat} {g : Gt} (h : w.heap[b]? = some (GBlk g)) :
    w.cell? ⟨b, 0, none⟩ = some (.pointer (some ⟨g.x, 0, none⟩)) ∧ w.cell? ⟨b, 1, none⟩ = some (.int .i64 g.tn) ∧ w.cell? ⟨b, 2, none⟩ = some (.int .u32 g.gn) ∧ w.cell? ⟨b, 3, none⟩ = some (.int .u8 g.rt) ∧ w.cell? ⟨b, 4, none⟩ = some (.int .i64 g.d) ∧ w.cell? ⟨b, 5, none⟩ = some (.pointer (g.p.map fun b => ⟨b, 0, none⟩)) ∧ w.cell? ⟨b, 6, none⟩ = some (.int .i64 g.tk) ∧ w.cell? ⟨b, 7, none⟩ = some (.int .u64 g.l0) ∧ w.cell? ⟨b, 8, none⟩ = some (.int .u64 g.l1) ∧ (∀ j, w.frozen? ⟨b, j, none⟩ = false) := by
  have hc := cell_of h
  exact ⟨hc 0, hc 1, hc 2, hc 3, hc 4, hc 5, hc 6, hc 7, hc 8, free_of h⟩
/-- The purse field of a gate is stored. -/
theorem gput {w : World} {b : Nat} {g : Gt} (h : w.heap[b]? = some (GBlk g)) (p : Option Nat) : (w.setCell ⟨b, 5, none⟩ (.pointer (p.map fun b => ⟨b, 0, none⟩))).heap[b]? = some (GBlk { g with p := p }) := set_at h rfl

/-- What a gate's deed may turn. -/
def GOwn (gb pb pm : Nat) (i : Nat) : Prop := i = gb ∨ i = pb ∨ i = pm

theorem gRefund_no {gb : Nat} {g : Gt} (w : World) (h : w.heap[gb]? = some (GBlk g)) (hp : g.p = none) : Calls Try.prog 99 #[.pointer (some ⟨gb, 0, none⟩)] w fun e w' => e = .returned (.tuple #[]) ∧ w = w' := by
  obtain ⟨x, tn, gn, rt, d, p, tk, l0, l1⟩ := g
  simp only at hp
  subst hp
  obtain ⟨c0, c1, c2, c3, c4, c5, c6, c7, c8, cf⟩ := gfacts h
  simp only [Option.map_none] at c5
  go_enter Try.func99, Try.ntmps99
  go_wp2
  go_end0
  exact ⟨rfl, rfl⟩

theorem gRefund_yes {gb pb pm : Nat} {g : Gt} {s : St} (w : World) (h : w.heap[gb]? = some (GBlk g)) (hp : g.p = some pb) (hP : PurseAt w pb pm s) (hI : Inv s) (n1 : gb ≠ pb) (n2 : gb ≠ pm) :
    Calls Try.prog 99 #[.pointer (some ⟨gb, 0, none⟩)] w fun e w' => e = .returned (.tuple #[]) ∧ w'.heap[gb]? = some (GBlk { g with p := none }) ∧ PurseAt w' pb pm (s.ref g.tk).2 ∧ Mod (GOwn gb pb pm) w w' := by
  obtain ⟨x, tn, gn, rt, d, p, tk, l0, l1⟩ := g
  simp only at hp
  subst hp
  have HG := hid h
  have HI := hid hI
  have hgl := lt_of_block h
  have hno : ¬ Own pb pm gb := fun e => e.elim n1 n2
  obtain ⟨c0, c1, c2, c3, c4, c5, c6, c7, c8, cf⟩ := gfacts h
  simp only [Option.map_some] at c0 c1 c2 c3 c4 c5 c6 c7 c8
  clear h hI
  go_enter Try.func99, Try.ntmps99
  go_wp2_with fail
  clear c0 c1 c2 c3 c4 c5 c6 c7 c8 cf
  refine wp_region_seqI (8 + 1) (Turn 8 (fun w1 => Mod (Own pb pm) w w1 ∧ PurseAt w1 pb pm s) (fun w1 => Mod (Own pb pm) w w1 ∧ PurseAt w1 pb pm (s.ref tk).2)) (by kernel_rfl) (by kernel_rfl) (by kernel_rfl) (Turn.start ⟨(Mod.refl (Own pb pm) w).drew, hP⟩) ?_
  dsimp only [List.take]
  iterate 8
    refine Seq.calm (a' := ?_) (by decide) ?_ ?_ ?_
    rotate_left
    ·
      intro w1 hw1
      have hM : Mod (Own pb pm) w w1 := hw1.elim (·.1) (·.1)
      obtain ⟨c0, c1, c2, c3, c4, c5, c6, c7, c8, cf⟩ := gfacts ((hM.block gb hgl hno).trans HG.out)
      simp only [Option.map_some] at c0 c1 c2 c3 c4 c5 c6 c7 c8
      clear hM hw1
      go_wp2_with (fail)
      first | (refine ⟨?_, id, id⟩; exact rfl) | (refine ⟨?_, fail⟩; exact rfl)
    · kernel_rfl
  refine Seq.turn (a' := ?_) ?_ ?_ ?_
  rotate_left
  ·
    intro w1 hw1
    have HM := hid hw1.1
    have HP := hid hw1.2
    clear hw1
    go_wp2_with (go_at_call 87; refine (refund_at HP.out HI.out tk).mono ?_; rintro e w2 ⟨rfl, hP, hX⟩)
    refine ⟨?_, HM.out.trans hX (fun _ _ h => h), hP⟩
    exact rfl
  · kernel_rfl
  iterate 0
    refine Seq.calm (a' := ?_) (by decide) ?_ ?_ ?_
    rotate_left
    ·
      intro w1 hw1
      have hM : Mod (Own pb pm) w w1 := hw1.elim (·.1) (·.1)
      obtain ⟨c0, c1, c2, c3, c4, c5, c6, c7, c8, cf⟩ := gfacts ((hM.block gb hgl hno).trans HG.out)
      simp only [Option.map_some] at c0 c1 c2 c3 c4 c5 c6 c7 c8
      clear hM hw1
      go_wp2_with (fail)
      first | (refine ⟨?_, id, id⟩; exact rfl) | (refine ⟨?_, fail⟩; exact rfl)
    · kernel_rfl
  refine SeqI.nil ?_
  intro D w1 hD hI
  replace hI := hI.done (hD 8 (by omega))
  clear hD
  dsimp only [List.drop]
  clear hP
  obtain ⟨hM1, hP1⟩ := hI
  have hg1 := (hM1.block gb hgl hno).trans HG.out
  have HM := hid hM1
  have HP := hid hP1
  obtain ⟨c0, c1, c2, c3, c4, c5, c6, c7, c8, cf⟩ := gfacts hg1
  simp only [Option.map_some] at c0 c1 c2 c3 c4 c5 c6 c7 c8
  clear hM1 hP1
  have HG1 := hid hg1
  clear hg1
  go_wp2
  go_end0
  exact ⟨rfl, gput HG1.out none, HP.out.setCell (Ne.symm n1) (Ne.symm n2) _, Mod.setCell (S := GOwn gb pb pm) (p := ⟨gb, 5, none⟩) (HM.out.mono fun _ _ h => .inr h) (.inl (.inl rfl)) _⟩

theorem gCommit_no {gb : Nat} {g : Gt} (w : World) (h : w.heap[gb]? = some (GBlk g)) (hp : g.p = none) : Calls Try.prog 98 #[.pointer (some ⟨gb, 0, none⟩)] w fun e w' => e = .returned (.tuple #[]) ∧ w = w' := by
  obtain ⟨x, tn, gn, rt, d, p, tk, l0, l1⟩ := g
  simp only at hp
  subst hp
  obtain ⟨c0, c1, c2, c3, c4, c5, c6, c7, c8, cf⟩ := gfacts h
  simp only [Option.map_none] at c5
  go_enter Try.func98, Try.ntmps98
  go_wp2
  go_end0
  exact ⟨rfl, rfl⟩

/-- What a commit of a gate makes of the purse. -/
def comPay (s : St) (tk l0 l1 : Int) : St := ((s.com tk).2.pay l0 l1).2
theorem gCommit_yes {gb pb pm : Nat} {g : Gt} {s : St} (w : World) (h : w.heap[gb]? = some (GBlk g)) (hp : g.p = some pb) (hP : PurseAt w pb pm s) (hI : Inv s) (n1 : gb ≠ pb) (n2 : gb ≠ pm) (hl0 : 0 ≤ g.l0) (hl1 : 0 ≤ g.l1) :
    Calls Try.prog 98 #[.pointer (some ⟨gb, 0, none⟩)] w fun e w' => e = .returned (.tuple #[]) ∧ w'.heap[gb]? = some (GBlk { g with p := none }) ∧ PurseAt w' pb pm (comPay s g.tk g.l0 g.l1) ∧ Mod (GOwn gb pb pm) w w' := by
  obtain ⟨x, tn, gn, rt, d, p, tk, l0, l1⟩ := g
  simp only at hp hl0 hl1
  subst hp
  have HG := hid h
  have HI := hid hI
  have HL := hid (And.intro hl0 hl1)
  have hgl := lt_of_block h
  have hno : ¬ Own pb pm gb := fun e => e.elim n1 n2
  obtain ⟨c0, c1, c2, c3, c4, c5, c6, c7, c8, cf⟩ := gfacts h
  simp only [Option.map_some] at c0 c1 c2 c3 c4 c5 c6 c7 c8
  clear h hI hl0 hl1
  go_enter Try.func98, Try.ntmps98
  go_wp2_with fail
  clear c0 c1 c2 c3 c4 c5 c6 c7 c8 cf
  refine wp_region_seqI (8 + 1) (Turn 8 (fun w1 => Mod (Own pb pm) w w1 ∧ PurseAt w1 pb pm s) (fun w1 => Mod (Own pb pm) w w1 ∧ PurseAt w1 pb pm (s.com tk).2)) (by kernel_rfl) (by kernel_rfl) (by kernel_rfl) (Turn.start ⟨(Mod.refl (Own pb pm) w).drew, hP⟩) ?_
  dsimp only [List.take]
  iterate 8
    refine Seq.calm (a' := ?_) (by decide) ?_ ?_ ?_
    rotate_left
    ·
      intro w1 hw1
      have hM : Mod (Own pb pm) w w1 := hw1.elim (·.1) (·.1)
      obtain ⟨c0, c1, c2, c3, c4, c5, c6, c7, c8, cf⟩ := gfacts ((hM.block gb hgl hno).trans HG.out)
      simp only [Option.map_some] at c0 c1 c2 c3 c4 c5 c6 c7 c8
      clear hM hw1
      go_wp2_with (fail)
      first | (refine ⟨?_, id, id⟩; exact rfl) | (refine ⟨?_, fail⟩; exact rfl)
    · kernel_rfl
  refine Seq.turn (a' := ?_) ?_ ?_ ?_
  rotate_left
  ·
    intro w1 hw1
    have HM := hid hw1.1
    have HP := hid hw1.2
    clear hw1
    go_wp2_with (go_at_call 85; refine (commit_at HP.out HI.out tk).mono ?_; rintro e w2 ⟨rfl, hP, hX⟩)
    refine ⟨?_, HM.out.trans hX (fun _ _ h => h), hP⟩
    exact rfl
  · kernel_rfl
  iterate 0
    refine Seq.calm (a' := ?_) (by decide) ?_ ?_ ?_
    rotate_left
    ·
      intro w1 hw1
      have hM : Mod (Own pb pm) w w1 := hw1.elim (·.1) (·.1)
      obtain ⟨c0, c1, c2, c3, c4, c5, c6, c7, c8, cf⟩ := gfacts ((hM.block gb hgl hno).trans HG.out)
      simp only [Option.map_some] at c0 c1 c2 c3 c4 c5 c6 c7 c8
      clear hM hw1
      go_wp2_with (fail)
      first | (refine ⟨?_, id, id⟩; exact rfl) | (refine ⟨?_, fail⟩; exact rfl)
    · kernel_rfl
  refine SeqI.nil ?_
  intro D w1 hD hI
  replace hI := hI.done (hD 8 (by omega))
  clear hD
  dsimp only [List.drop]
  have HJ := hid hI
  clear hI hP
  go_wp2_with fail
  refine wp_region_seqI (14 + 1) (Turn 14 (fun w1 => Mod (Own pb pm) w w1 ∧ PurseAt w1 pb pm (s.com tk).2) (fun w1 => Mod (Own pb pm) w w1 ∧ PurseAt w1 pb pm (comPay s tk l0 l1))) (by kernel_rfl) (by kernel_rfl) (by kernel_rfl) (Turn.start ⟨HJ.out.1.drew, HJ.out.2⟩) ?_
  dsimp only [List.take]
  iterate 14
    refine Seq.calm (a' := ?_) (by decide) ?_ ?_ ?_
    rotate_left
    ·
      intro w1 hw1
      have hM : Mod (Own pb pm) w w1 := hw1.elim (·.1) (·.1)
      obtain ⟨c0, c1, c2, c3, c4, c5, c6, c7, c8, cf⟩ := gfacts ((hM.block gb hgl hno).trans HG.out)
      simp only [Option.map_some] at c0 c1 c2 c3 c4 c5 c6 c7 c8
      clear hM hw1
      go_wp2_with (fail)
      first | (refine ⟨?_, id, id⟩; exact rfl) | (refine ⟨?_, fail⟩; exact rfl)
    · kernel_rfl
  refine Seq.turn (a' := ?_) ?_ ?_ ?_
  rotate_left
  ·
    intro w1 hw1
    have HM := hid hw1.1
    have HP := hid hw1.2
    clear hw1
    go_wp2_with (go_at_call 101; refine (pay_at HP.out (HI.out.com tk) l0 l1 HL.out.1 HL.out.2).mono ?_; rintro e w2 ⟨rfl, hP, hX⟩)
    refine ⟨?_, HM.out.trans hX (fun _ _ h => h), hP⟩
    exact rfl
  · kernel_rfl
  iterate 0
    refine Seq.calm (a' := ?_) (by decide) ?_ ?_ ?_
    rotate_left
    ·
      intro w1 hw1
      have hM : Mod (Own pb pm) w w1 := hw1.elim (·.1) (·.1)
      obtain ⟨c0, c1, c2, c3, c4, c5, c6, c7, c8, cf⟩ := gfacts ((hM.block gb hgl hno).trans HG.out)
      simp only [Option.map_some] at c0 c1 c2 c3 c4 c5 c6 c7 c8
      clear hM hw1
      go_wp2_with (fail)
      first | (refine ⟨?_, id, id⟩; exact rfl) | (refine ⟨?_, fail⟩; exact rfl)
    · kernel_rfl
  refine SeqI.nil ?_
  intro D w1 hD hI
  replace hI := hI.done (hD 14 (by omega))
  clear hD
  dsimp only [List.drop]
  obtain ⟨hM1, hP1⟩ := hI
  have hg1 := (hM1.block gb hgl hno).trans HG.out
  have HM := hid hM1
  have HP := hid hP1
  obtain ⟨c0, c1, c2, c3, c4, c5, c6, c7, c8, cf⟩ := gfacts hg1
  simp only [Option.map_some] at c0 c1 c2 c3 c4 c5 c6 c7 c8
  clear hM1 hP1
  have HG1 := hid hg1
  clear hg1
  go_wp2
  go_end0
  exact ⟨rfl, gput HG1.out none, HP.out.setCell (Ne.symm n1) (Ne.symm n2) _, Mod.setCell (S := GOwn gb pb pm) (p := ⟨gb, 5, none⟩) (HM.out.mono fun _ _ h => .inr h) (.inl (.inl rfl)) _⟩
end Go.Proofs.Ytgdmfledhhoedaa.T
