/- The law's same: the locks agree with the reference. -/
import Derived.Test.YtofkodfdgbjboaaLD3
namespace Go.Proofs.Ytofkodfdgbjboaa
open Go.ChangeShapes Go.WideShapes Go.ChangeAt Go.RowKit Go.Burg
open Go.Burg.Lk

/-- The cells of a slice of Refs. -/
def rks (R : List RefK) : List Value := R.flatMap fun r => [.int .i64 r.1.1, .int .u32 r.1.2]
theorem rks_at : ∀ {R : List RefK} {n : Nat} {x : RefK}, R[n]? = some x → (rks R)[n * 2]? = some (.int .i64 x.1.1) ∧ (rks R)[n * 2 + 1]? = some (.int .u32 x.1.2) := by
  intro l
  induction l with
  | nil => intro n t h; simp at h
  | cons a T ih =>
    intro n t h
    cases n with
    | zero => simp at h; subst h; simp [rks]
    | succ n =>
      simp at h
      have := ih h
      simp only [rks, List.flatMap_cons] at this ⊢
      rw [List.getElem?_append_right (by simp; omega), List.getElem?_append_right (by simp; omega)]
      simp only [List.length_cons, List.length_nil]
      rw [show (n + 1) * 2 - (0 + 1 + 1) = n * 2 by omega, show (n + 1) * 2 + 1 - (0 + 1 + 1) = n * 2 + 1 by omega]
      exact this
theorem rks_cell {w : World} {g cap n : Nat} {R : List RefK} {x : RefK} (h : w.ownsRow 0 30 2 (.slice (some ⟨g, 0, none⟩) R.length cap) R.length (rks R)) (hx : R[n]? = some x) :
    w.cell? ⟨g, n * 2, none⟩ = some (.int .i64 x.1.1) ∧ w.cell? ⟨g, n * 2 + 1, none⟩ = some (.int .u32 x.1.2) := by
  have hn := (List.getElem?_eq_some_iff.1 hx).1
  obtain ⟨h1, h2⟩ := rks_at hx
  exact ⟨(World.ownsRow.cellAt h _ (by omega)).trans h1, (World.ownsRow.cellAt h _ (by omega)).trans h2⟩

/-- What same is asked of. -/
structure Asked (b m p : Nat) (rv wv fv : Value) (l : List (RefK × Wd)) (t : Int) (R : List RefK) (w : World) : Prop where
  lk : LocksAt w b m l t
  rf : RAt w p rv wv l t
  fs : w.ownsRow 0 30 2 fv R.length (rks R)
theorem Asked.keep {b m p : Nat} {rv wv fv : Value} {l : List (RefK × Wd)} {t : Int} {R : List RefK} {w w' : World} (h : Asked b m p rv wv fv l t R w) (hB : Below w.heap.size w w') : Asked b m p rv wv fv l t R w' :=
  ⟨h.lk.keep hB, h.rf.keep hB, World.ownsRow.kept h.fs (grown_bel hB) (Classical.em _)⟩

section
variable {w : World} {b m p : Nat} {rv wv fv : Value} {l : List (RefK × Wd)} {t : Int} {R : List RefK}

set_option maxRecDepth 20000 in
set_option maxHeartbeats 4000000 in
theorem same_any (h : Asked b m p rv wv fv l t R w) (hn : l.length ≤ 1000) (hR : R.length ≤ 1000) : Calls Try.prog 22 #[.pointer (some ⟨b, 0, none⟩), .pointer (some ⟨p, 0, none⟩), fv] w fun e w' => e = .returned (.bool true) ∧ Below w.heap.size w w' := by
  obtain ⟨fa, fc, rfl, hform⟩ := row_form h.fs
  obtain ⟨ra, rc, rfl, _⟩ := row_form h.rf.rs
  have HA := hid h
  have HF := hid hform
  clear h hform
  go_enter Try.func22, Try.ntmps22
  go_wp2_with fail
  go_loopw [7] (fun iv wr => ∃ i : Nat, i ≤ R.length ∧ iv = .int .i64 i ∧ Below w.heap.size w wr) (fun iv _ => R.length - (intOf iv).toNat)
  case atStart => exact ⟨0, Nat.zero_le _, rfl, Below.refl _ _⟩
  case round =>
    obtain ⟨i, hi, rfl, hB⟩ := hrel
    have HB := hid hB
    have HK := hid (HA.out.keep hB)
    clear hB
    by_cases hlt : i < R.length
    · obtain ⟨g, rfl, hg, hc1, hc2⟩ := HF.out (by omega)
      unfold maxLen at hc2
      have hcond : decide ((i : Int) < R.length) = true := by simp; exact hlt
      obtain ⟨x, hx⟩ : ∃ x, R[i]? = some x := ⟨R[i], by simp [hlt]⟩
      have HX := hid hx
      clear hx
      obtain ⟨f0, f1⟩ := rks_cell HK.out.fs HX.out
      have RA := begin_at HK.out.lk x
      rw [beg_word] at RA
      have HRB := hid (fun (w1 : World) (h : RAt w1 p (.slice ra l.length rc) wv l t) => rbegin_any h x (by omega))
      rw [beg_word] at HRB
      generalize (lkp l x).getD w0 = y at RA HRB
      generalize (beg l x).2 = s at RA HRB
      have hy := y.2
      obtain ⟨y4, hy4⟩ : ∃ z : Wd, IntKind.u64.wrap (y.1 + 4) = z.1 := ⟨Wd.of (y.1 + 4), rfl⟩
      obtain ⟨y5, hy5⟩ : ∃ z : Wd, bits .xor .u64 y.1 1 = z.1 := ⟨⟨bits .xor .u64 y.1 1, by rw [bit_xor1 hy.1 hy.2]; split <;> omega⟩, rfl⟩
      have HC1 := hid (fun (w1 : World) (h : LocksAt w1 b m l t) => check_at h x y)
      have HC2 := hid (fun (w1 : World) (h : LocksAt w1 b m l t) => check_at h x y4)
      have HC3 := hid (fun (w1 : World) (h : LocksAt w1 b m l t) => check_at h x y5)
      have HR1 := hid (fun (w1 : World) (h : RAt w1 p (.slice ra l.length rc) wv l t) => rcheck_any h x y (by omega))
      have HR2 := hid (fun (w1 : World) (h : RAt w1 p (.slice ra l.length rc) wv l t) => rcheck_any h x y4 (by omega))
      have HR3 := hid (fun (w1 : World) (h : RAt w1 p (.slice ra l.length rc) wv l t) => rcheck_any h x y5 (by omega))
      generalize decide (lkp l x = some y) = v1 at HC1 HR1
      generalize decide (lkp l x = some y4) = v2 at HC2 HR2
      generalize decide (lkp l x = some y5) = v3 at HC3 HR3
      go_wp2_with fail
      refine RA.mono ?_
      clear RA f0 f1
      rintro e w2 ⟨rfl, hb2⟩
      have HK1 := hid (HK.out.keep hb2)
      have HB1 := hid (below_chain HB.out hb2 HB.out.size)
      clear hb2
      obtain ⟨f0, f1⟩ := rks_cell HK1.out.fs HX.out
      go_wp2_with fail
      refine (HRB.out _ HK1.out.rf).mono ?_
      clear f0 f1
      rintro e w3 ⟨rfl, hb3⟩
      have HK2 := hid (HK1.out.keep hb3)
      have HB2 := hid (below_chain HB1.out hb3 HB1.out.size)
      clear hb3 HK1 HB1 HK HRB
      go_wp2_with fail
      refine wp_region_seq 63 (fun w1 => Below (w3).heap.size (w3) w1) (by kernel_rfl) (by kernel_rfl) (by kernel_rfl) ⟨rfl, rfl, rfl, Nat.le_refl _, fun _ _ => rfl⟩ ?_
      dsimp only [List.take]
      iterate 16
        refine Seq.cons (a' := ?_) ?_ ?_ ?_
        rotate_left
        ·
          intro w1 hw1
          have hK := hid (HK2.out.keep hw1)
          obtain ⟨f0, f1⟩ := rks_cell hK.out.fs HX.out
          go_wp2_with (go_at_call 18; refine (HC1.out _ hK.out.lk).mono ?_; rintro e w' ⟨rfl, hb⟩)
          refine ⟨?_, by first | assumption | (simpa using below_chain hw1 hb hw1.size)⟩
          exact rfl
        · kernel_rfl
      iterate 7
        refine Seq.cons (a' := ?_) ?_ ?_ ?_
        rotate_left
        ·
          intro w1 hw1
          have hK := hid (HK2.out.keep hw1)
          obtain ⟨f0, f1⟩ := rks_cell hK.out.fs HX.out
          go_wp2_with (go_at_call 42; refine (HR1.out _ hK.out.rf).mono ?_; rintro e w' ⟨rfl, hb⟩)
          refine ⟨?_, by first | assumption | (simpa using below_chain hw1 hb hw1.size)⟩
          exact rfl
        · kernel_rfl
      iterate 11
        refine Seq.cons (a' := ?_) ?_ ?_ ?_
        rotate_left
        ·
          intro w1 hw1
          have hK := hid (HK2.out.keep hw1)
          obtain ⟨f0, f1⟩ := rks_cell hK.out.fs HX.out
          go_wp2_with (go_at_call 18; refine (HC2.out _ hK.out.lk).mono ?_; rintro e w' ⟨rfl, hb⟩)
          refine ⟨?_, by first | assumption | (simpa using below_chain hw1 hb hw1.size)⟩
          exact rfl
        · kernel_rfl
      iterate 8
        refine Seq.cons (a' := ?_) ?_ ?_ ?_
        rotate_left
        ·
          intro w1 hw1
          have hK := hid (HK2.out.keep hw1)
          obtain ⟨f0, f1⟩ := rks_cell hK.out.fs HX.out
          go_wp2_with (go_at_call 42; refine (HR2.out _ hK.out.rf).mono ?_; rintro e w' ⟨rfl, hb⟩)
          refine ⟨?_, by first | assumption | (simpa using below_chain hw1 hb hw1.size)⟩
          exact rfl
        · kernel_rfl
      iterate 11
        refine Seq.cons (a' := ?_) ?_ ?_ ?_
        rotate_left
        ·
          intro w1 hw1
          have hK := hid (HK2.out.keep hw1)
          obtain ⟨f0, f1⟩ := rks_cell hK.out.fs HX.out
          go_wp2_with (go_at_call 18; refine (HC3.out _ hK.out.lk).mono ?_; rintro e w' ⟨rfl, hb⟩)
          refine ⟨?_, by first | assumption | (simpa using below_chain hw1 hb hw1.size)⟩
          exact rfl
        · kernel_rfl
      iterate 8
        refine Seq.cons (a' := ?_) ?_ ?_ ?_
        rotate_left
        ·
          intro w1 hw1
          have hK := hid (HK2.out.keep hw1)
          obtain ⟨f0, f1⟩ := rks_cell hK.out.fs HX.out
          go_wp2_with (go_at_call 42; refine (HR3.out _ hK.out.rf).mono ?_; rintro e w' ⟨rfl, hb⟩)
          refine ⟨?_, by first | assumption | (simpa using below_chain hw1 hb hw1.size)⟩
          exact rfl
        · kernel_rfl
      iterate 2
        refine Seq.cons (a' := ?_) ?_ ?_ ?_
        rotate_left
        ·
          intro w1 hw1
          have hK := hid (HK2.out.keep hw1)
          obtain ⟨f0, f1⟩ := rks_cell hK.out.fs HX.out
          go_wp2_with (fail)
          refine ⟨?_, by first | assumption | (simpa using below_chain hw1 hb hw1.size)⟩
          exact rfl
        · kernel_rfl
      refine SeqI.nil ?_
      intro _ w1 _ hw1
      dsimp only [List.drop]
      have HB3 := hid (below_chain HB2.out hw1 HB2.out.size)
      clear hw1 HB2
      go_wp2_with fail
      go_roundw
      case rel => exact ⟨i + 1, by omega, by go_num, HB3.out⟩
      case measure => simp [intOf]; omega
    · obtain rfl : i = R.length := by omega
      have hcond : decide ((R.length : Int) < R.length) = false := by simp
      have HHA := hid (fun (w1 : World) (h : LocksAt w1 b m l t) => held_at h (by omega))
      have HHR := hid (fun (w1 : World) (h : RAt w1 p (.slice ra l.length rc) wv l t) => rheld_any h (by omega))
      generalize heldL l = q at HHA HHR
      go_wp2_with fail
      refine wp_region_seq 24 (fun w1 => Below (wr).heap.size (wr) w1) (by kernel_rfl) (by kernel_rfl) (by kernel_rfl) ⟨rfl, rfl, rfl, Nat.le_refl _, fun _ _ => rfl⟩ ?_
      dsimp only [List.take]
      iterate 2
        refine Seq.cons (a' := ?_) ?_ ?_ ?_
        rotate_left
        ·
          intro w1 hw1
          have hK := hid (HA.out.keep (below_chain HB.out hw1 HB.out.size))
          obtain ⟨c0, c1, c2, cf, cl⟩ := rfacts hK.out.rf
          go_wp2_with (go_at_call 17; refine (HHA.out _ hK.out.lk).mono ?_; rintro e w' ⟨rfl, hb⟩)
          refine ⟨?_, by first | assumption | (simpa using below_chain hw1 hb hw1.size)⟩
          exact rfl
        · kernel_rfl
      iterate 2
        refine Seq.cons (a' := ?_) ?_ ?_ ?_
        rotate_left
        ·
          intro w1 hw1
          have hK := hid (HA.out.keep (below_chain HB.out hw1 HB.out.size))
          obtain ⟨c0, c1, c2, cf, cl⟩ := rfacts hK.out.rf
          go_wp2_with (go_at_call 43; refine (HHR.out _ hK.out.rf).mono ?_; rintro e w' ⟨rfl, hb⟩)
          refine ⟨?_, by first | assumption | (simpa using below_chain hw1 hb hw1.size)⟩
          exact rfl
        · kernel_rfl
      iterate 4
        refine Seq.cons (a' := ?_) ?_ ?_ ?_
        rotate_left
        ·
          intro w1 hw1
          have hK := hid (HA.out.keep (below_chain HB.out hw1 HB.out.size))
          obtain ⟨c0, c1, c2, cf, cl⟩ := rfacts hK.out.rf
          go_wp2_with (go_at_call 19; refine (taken_at hK.out.lk).mono ?_; rintro e w' ⟨rfl, rfl⟩)
          refine ⟨?_, by first | assumption | (simpa using below_chain hw1 hb hw1.size)⟩
          exact rfl
        · kernel_rfl
      iterate 9
        refine Seq.cons (a' := ?_) ?_ ?_ ?_
        rotate_left
        ·
          intro w1 hw1
          have hK := hid (HA.out.keep (below_chain HB.out hw1 HB.out.size))
          obtain ⟨c0, c1, c2, cf, cl⟩ := rfacts hK.out.rf
          go_wp2_with (go_at_call 24; refine (len_at hK.out.lk).mono ?_; rintro e w' ⟨rfl, rfl⟩)
          refine ⟨?_, by first | assumption | (simpa using below_chain hw1 hb hw1.size)⟩
          exact rfl
        · kernel_rfl
      iterate 7
        refine Seq.cons (a' := ?_) ?_ ?_ ?_
        rotate_left
        ·
          intro w1 hw1
          have hK := hid (HA.out.keep (below_chain HB.out hw1 HB.out.size))
          obtain ⟨c0, c1, c2, cf, cl⟩ := rfacts hK.out.rf
          go_wp2_with (fail)
          refine ⟨?_, by first | assumption | (simpa using below_chain hw1 hb hw1.size)⟩
          exact rfl
        · kernel_rfl
      refine SeqI.nil ?_
      intro _ w1 _ hw1
      dsimp only [List.drop]
      have HB3 := hid (below_chain HB.out hw1 HB.out.size)
      clear hw1 HB
      go_wp2_with fail
      go_ret
      exact ⟨rfl, HB3.out⟩
end
end Go.Proofs.Ytofkodfdgbjboaa
