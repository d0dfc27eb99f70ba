/- The table: Good, May, Revoke. -/
import Derived.Test.YtgdmfledhhoedaaT5
import Derived.Test.YtgdmfledhhoedaaTurn
namespace Go.Proofs.Ytgdmfledhhoedaa.T
set_option maxRecDepth 8000
open Go.ChangeShapes Go.WideShapes Go.ChangeAt Go.RowKit Go.Burg
open Go.Burg.Purse (St Inv)

set_option maxHeartbeats 1000000 in
theorem good1_any {x t n a c : Nat} {l : Nat → Ten} (tn gn rt : Int) (w : World) (h : TabAt 42 w x t l) (h2 : n ≤ 16) (ha : w.heap[a]? = some (.cells #[.int .i64 tn, .int .u32 gn, .int .u8 rt] 26 (0, 0))) (hc : w.heap[c]? = some (.cells #[.bool false] 4 (0, 0))) (v : Bool) (hv : (hRight tn gn rt && ((l n).gen == gn)) = v) :
    Calls Try.prog 31 #[.pointer (some ⟨x, 1 + n * 4, none⟩), .pointer (some ⟨a, 0, none⟩), .pointer (some ⟨c, 0, none⟩)] w fun e w' => e = .returned (.tuple #[]) ∧ w'.heap[c]? = some (.cells #[.bool v] 4 (0, 0)) ∧ Mod (· = c) w w' := by
  have hx := h.lt
  have hal := lt_of_block ha
  have hcl := lt_of_block hc
  have H := hid h
  have HA := hid ha
  have HC := hid hc
  have HR := hid (Right_any tn gn rt)
  have a0 := cell_of ha 0
  have a1 := cell_of ha 1
  have a2 := cell_of ha 2
  clear h ha hc
  have ne1 : a ≠ c := fun e => by subst e; rw [HC.out] at HA; have := HA.out; simp at this
  have ne2 : x ≠ c := fun e => by subst e; have h1 := H.out.head.1; rw [cell_of HC.out 0] at h1; simp at h1
  clear a0 a1 a2
  generalize hRight tn gn rt = r at HR hv
  cases r
  · simp only [Bool.false_and] at hv
    subst hv
    go_enter Try.func31, Try.ntmps31
    refine wp_region_seqI 12 (Turn 11 (fun w1 => Mod (· = c) w w1 ∧ w1.heap[c]? = w.heap[c]?) (fun w1 => Mod (· = c) w w1 ∧ w1.heap[c]? = some (.cells #[.bool false] 4 (0, 0)))) (by kernel_rfl) (by kernel_rfl) (by kernel_rfl) (Turn.start ⟨(Mod.refl (· = c) w).drew, rfl⟩) ?_
    dsimp only [List.take]
    iterate 11
      refine Seq.calm (a' := ?_) (by decide) ?_ ?_ ?_
      rotate_left
      ·
        intro w1 hw1
        have hM : Mod (· = c) w w1 := hw1.elim (·.1) (·.1)
        obtain ⟨c0, _, _, _⟩ := (H.out.mod hM ne2).cell (show n < 17 by omega)
        have ha := (hM.block a hal ne1).trans HA.out
        have a0 := cell_of ha 0
        have a1 := cell_of ha 1
        have a2 := cell_of ha 2
        clear ha hM hw1
        go_wp2_with (go_at_call 32; refine (HR.out _).mono ?_; rintro e w2 ⟨rfl, hB⟩)
        first | (refine ⟨?_, id, id⟩; exact rfl) | (refine ⟨?_, fun h => ⟨h.1.trans (Mod.ofBelow hB) (fun _ _ h => h), (hB.block c (Nat.lt_of_lt_of_le hcl h.1.size)).trans h.2⟩, fun h => ⟨h.1.trans (Mod.ofBelow hB) (fun _ _ h => h), (hB.block c (Nat.lt_of_lt_of_le hcl h.1.size)).trans h.2⟩⟩; exact rfl)
      · kernel_rfl
    refine Seq.turn (a' := ?_) ?_ ?_ ?_
    rotate_left
    ·
      intro w1 hw1
      have hc := hw1.2.trans HC.out
      have k0 := cell_of hc 0
      have kf := free_of hc
      have HM := hid hw1.1
      clear hw1
      go_wp2_with fail
      refine ⟨?_, Mod.setCell (S := (· = c)) (p := ⟨c, 0, none⟩) HM.out (.inl rfl) _, set_at hc rfl⟩
      exact rfl
    · kernel_rfl
    iterate 0
      refine Seq.calm (a' := ?_) (by decide) ?_ ?_ ?_
      rotate_left
      ·
        intro w1 hw1
        have hM : Mod (· = c) w w1 := hw1.elim (·.1) (·.1)
        obtain ⟨c0, _, _, _⟩ := (H.out.mod hM ne2).cell (show n < 17 by omega)
        have ha := (hM.block a hal ne1).trans HA.out
        have a0 := cell_of ha 0
        have a1 := cell_of ha 1
        have a2 := cell_of ha 2
        clear ha hM hw1
        go_wp2_with (go_at_call 32; refine (HR.out _).mono ?_; rintro e w2 ⟨rfl, hB⟩)
        first | (refine ⟨?_, id, id⟩; exact rfl) | (refine ⟨?_, fun h => ⟨h.1.trans (Mod.ofBelow hB) (fun _ _ h => h), (hB.block c (Nat.lt_of_lt_of_le hcl h.1.size)).trans h.2⟩, fun h => ⟨h.1.trans (Mod.ofBelow hB) (fun _ _ h => h), (hB.block c (Nat.lt_of_lt_of_le hcl h.1.size)).trans h.2⟩⟩; exact rfl)
      · kernel_rfl
    refine SeqI.nil ?_
    intro D w1 hD hI
    replace hI := hI.done (hD 11 (by omega))
    clear hD
    dsimp only [List.drop]
    go_end0
    exact ⟨rfl, hI.2, hI.1⟩
  · simp only [Bool.true_and] at hv
    subst hv
    go_enter Try.func31, Try.ntmps31
    refine wp_region_seqI 12 (Turn 11 (fun w1 => Mod (· = c) w w1 ∧ w1.heap[c]? = w.heap[c]?) (fun w1 => Mod (· = c) w w1 ∧ w1.heap[c]? = some (.cells #[.bool ((l n).gen == gn)] 4 (0, 0)))) (by kernel_rfl) (by kernel_rfl) (by kernel_rfl) (Turn.start ⟨(Mod.refl (· = c) w).drew, rfl⟩) ?_
    dsimp only [List.take]
    iterate 11
      refine Seq.calm (a' := ?_) (by decide) ?_ ?_ ?_
      rotate_left
      ·
        intro w1 hw1
        have hM : Mod (· = c) w w1 := hw1.elim (·.1) (·.1)
        obtain ⟨c0, _, _, _⟩ := (H.out.mod hM ne2).cell (show n < 17 by omega)
        have ha := (hM.block a hal ne1).trans HA.out
        have a0 := cell_of ha 0
        have a1 := cell_of ha 1
        have a2 := cell_of ha 2
        clear ha hM hw1
        go_wp2_with (go_at_call 32; refine (HR.out _).mono ?_; rintro e w2 ⟨rfl, hB⟩)
        first | (refine ⟨?_, id, id⟩; exact rfl) | (refine ⟨?_, fun h => ⟨h.1.trans (Mod.ofBelow hB) (fun _ _ h => h), (hB.block c (Nat.lt_of_lt_of_le hcl h.1.size)).trans h.2⟩, fun h => ⟨h.1.trans (Mod.ofBelow hB) (fun _ _ h => h), (hB.block c (Nat.lt_of_lt_of_le hcl h.1.size)).trans h.2⟩⟩; exact rfl)
      · kernel_rfl
    refine Seq.turn (a' := ?_) ?_ ?_ ?_
    rotate_left
    ·
      intro w1 hw1
      have hc := hw1.2.trans HC.out
      have k0 := cell_of hc 0
      have kf := free_of hc
      have HM := hid hw1.1
      clear hw1
      go_wp2_with fail
      refine ⟨?_, Mod.setCell (S := (· = c)) (p := ⟨c, 0, none⟩) HM.out (.inl rfl) _, set_at hc rfl⟩
      exact rfl
    · kernel_rfl
    iterate 0
      refine Seq.calm (a' := ?_) (by decide) ?_ ?_ ?_
      rotate_left
      ·
        intro w1 hw1
        have hM : Mod (· = c) w w1 := hw1.elim (·.1) (·.1)
        obtain ⟨c0, _, _, _⟩ := (H.out.mod hM ne2).cell (show n < 17 by omega)
        have ha := (hM.block a hal ne1).trans HA.out
        have a0 := cell_of ha 0
        have a1 := cell_of ha 1
        have a2 := cell_of ha 2
        clear ha hM hw1
        go_wp2_with (go_at_call 32; refine (HR.out _).mono ?_; rintro e w2 ⟨rfl, hB⟩)
        first | (refine ⟨?_, id, id⟩; exact rfl) | (refine ⟨?_, fun h => ⟨h.1.trans (Mod.ofBelow hB) (fun _ _ h => h), (hB.block c (Nat.lt_of_lt_of_le hcl h.1.size)).trans h.2⟩, fun h => ⟨h.1.trans (Mod.ofBelow hB) (fun _ _ h => h), (hB.block c (Nat.lt_of_lt_of_le hcl h.1.size)).trans h.2⟩⟩; exact rfl)
      · kernel_rfl
    refine SeqI.nil ?_
    intro D w1 hD hI
    replace hI := hI.done (hD 11 (by omega))
    clear hD
    dsimp only [List.drop]
    go_end0
    exact ⟨rfl, hI.2, hI.1⟩

/-- of: no such number. -/
theorem of_arg {x t : Nat} {l : Nat → Ten} (n : Int) (f : Value) (w : World) (h : TabAt 42 w x t l) (hn : n < 1 ∨ 16 < n) :
    Calls Try.prog 17 #[.pointer (some ⟨x, 0, none⟩), .int .i64 n, f] w fun e w' => e = .returned (.int .i64 2) ∧ w = w' := by
  have HT := hid (there_at w h)
  clear h
  by_cases h1 : n < 1
  · have g1 : decide (n < 1) = true := by simpa using h1
    clear hn h1
    go_enter Try.func17, Try.ntmps17
    go_wp2_with (go_at_call 36; refine HT.out.mono ?_; rintro e w2 ⟨rfl, rfl⟩)
    go_ret
    exact ⟨rfl, rfl⟩
  · have g1 : decide (n < 1) = false := by simpa using h1
    have g2 : decide (n > 16) = true := by simp; omega
    clear hn h1
    go_enter Try.func17, Try.ntmps17
    go_wp2_with (go_at_call 36; refine HT.out.mono ?_; rintro e w2 ⟨rfl, rfl⟩)
    go_ret
    exact ⟨rfl, rfl⟩

/-- Is a handle good? -/
def goodB (l : Nat → Ten) (tn gn rt : Int) : Bool := (l tn.toNat).purse.isSome && (hRight tn gn rt && ((l tn.toNat).gen == gn))

theorem of_good {x t a c : Nat} {l : Nat → Ten} (tn gn rt : Int) (w : World) (h : TabAt 42 w x t l) (ha : w.heap[a]? = some (.cells #[.int .i64 tn, .int .u32 gn, .int .u8 rt] 26 (0, 0))) (hc : w.heap[c]? = some (.cells #[.bool false] 4 (0, 0))) :
    Calls Try.prog 17 #[.pointer (some ⟨x, 0, none⟩), .int .i64 tn, .func (.func 31) #[] #[.pointer (some ⟨a, 0, none⟩), .pointer (some ⟨c, 0, none⟩)]] w fun e w' => (∃ r, e = .returned (.int .i64 r)) ∧ w'.heap[c]? = some (.cells #[.bool (goodB l tn gn rt)] 4 (0, 0)) ∧ Mod (· = c) w w' := by
  by_cases hn : tn < 1 ∨ 16 < tn
  · refine (of_arg tn _ w h hn).mono ?_
    rintro e w' ⟨rfl, rfl⟩
    have e0 : goodB l tn gn rt = false := by
      have : hRight tn gn rt = false := by unfold hRight; rcases hn with h | h <;> simp <;> omega
      simp [goodB, this]
    rw [e0]
    exact ⟨⟨_, rfl⟩, hc, Mod.refl _ _⟩
  · obtain ⟨n, rfl⟩ : ∃ n : Nat, tn = n := ⟨tn.toNat, by omega⟩
    have h1 : 1 ≤ n := by omega
    have h2 : n ≤ 16 := by omega
    cases hp : (l n).purse with
    | none =>
      refine (of_none _ w h h1 h2 hp).mono ?_
      rintro e w' ⟨rfl, rfl⟩
      have e0 : goodB l n gn rt = false := by simp [goodB, hp]
      rw [e0]
      exact ⟨⟨_, rfl⟩, hc, Mod.refl _ _⟩
    | some p =>
      have e0 : goodB l n gn rt = (hRight n gn rt && ((l n).gen == gn)) := by simp [goodB, hp]
      have HI := hid (good1_any n gn rt w h h2 ha hc (goodB l n gn rt) e0.symm)
      clear ha hc hn e0
      have HT := hid (there_at w h)
      obtain ⟨_, cf⟩ := h.head
      obtain ⟨c0, c1, c2, c3⟩ := h.cell (show n < 17 by omega)
      rw [hp] at c3
      simp only [Option.map_some] at c3
      clear c0 c1 c2 hp
      have g1 : decide ((n : Int) < 1) = false := by simp; omega
      have g2 : decide ((n : Int) > 16) = false := by simp; omega
      go_enter Try.func17, Try.ntmps17
      go_wp2_with (first | (go_at_call 36; refine HT.out.mono ?_; rintro e w2 ⟨rfl, rfl⟩) | (go_at_call 31; refine HI.out.mono ?_; rintro e w2 ⟨rfl, hC, hM⟩))
      go_ret
      exact ⟨⟨_, rfl⟩, hC, hM⟩

set_option maxHeartbeats 1000000 in
theorem Good_at {x t : Nat} {l : Nat → Ten} (tn gn rt : Int) (w : World) (h : TabAt 42 w x t l) : Calls Try.prog 13 #[.pointer (some ⟨x, 0, none⟩), .agg #[.int .i64 tn, .int .u32 gn, .int .u8 rt]] w fun e w' => e = .returned (.bool (goodB l tn gn rt)) ∧ Below w.heap.size w w' := by
  have hN := heap_new w (.cells #[.int .i64 tn, .int .u32 gn, .int .u8 rt] 26 (0, 0))
  have hA := (h.alloc (.cells #[.int .i64 tn, .int .u32 gn, .int .u8 rt] 26 (0, 0))).alloc (.cells #[.bool false] 4)
  have hN1 := blk_alloc (o' := .cells #[.bool false] 4) hN
  have hN2 := heap_new (w.alloc (.cells #[.int .i64 tn, .int .u32 gn, .int .u8 rt] 26 (0, 0))) (.cells #[.bool false] 4)
  rw [show (w.alloc (.cells #[.int .i64 tn, .int .u32 gn, .int .u8 rt] 26 (0, 0))).heap.size = w.heap.size + 1 by simp] at hN2
  have a0 := cell_of hN1 0
  have HI := hid (of_good tn gn rt _ hA hN1 hN2)
  clear hA hN hN1 hN2 h
  generalize goodB l tn gn rt = v at HI
  go_enter Try.func13, Try.ntmps13
  go_wp2_with (go_at_call 17; refine HI.out.mono ?_; rintro e w2 ⟨⟨r, rfl⟩, hC, hM⟩; have HM := hid hM; have k0 := cell_of hC 0; clear hM hC)
  go_ret
  refine ⟨rfl, ?_⟩
  have hM := HM.out
  have h0 : Below w.heap.size w ((w.alloc (.cells #[.int .i64 tn, .int .u32 gn, .int .u8 rt] 26 (0, 0))).alloc (.cells #[.bool false] 4)) := ((Below.refl _ _).alloc (Nat.le_refl _) _).alloc (by simp) _
  exact h0.trans ⟨hM.os, hM.tape, hM.output, hM.size, fun k hk => hM.block k (by simp; omega) (by omega)⟩

/-- What May says. -/
def mayI (l : Nat → Ten) (tn gn rt d : Int) : Int := if goodB l tn gn rt then (if hAllows tn gn rt d then 0 else 12) else 11
theorem May_at {x t : Nat} {l : Nat → Ten} (tn gn rt d : Int) (w : World) (h : TabAt 42 w x t l) : Calls Try.prog 14 #[.pointer (some ⟨x, 0, none⟩), .agg #[.int .i64 tn, .int .u32 gn, .int .u8 rt], .int .i64 d] w fun e w' => e = .returned (.int .i64 (mayI l tn gn rt d)) ∧ Below w.heap.size w w' := by
  have hN := hid (heap_new w (.cells #[.int .i64 tn, .int .u32 gn, .int .u8 rt] 26 (0, 0)))
  have hA := h.alloc (.cells #[.int .i64 tn, .int .u32 gn, .int .u8 rt] 26 (0, 0))
  have HG := hid (Good_at tn gn rt _ hA)
  have HA := hid (allows_any tn gn rt d)
  have hb0 : Hid (Below w.heap.size w (w.alloc (.cells #[.int .i64 tn, .int .u32 gn, .int .u8 rt] 26 (0, 0)))) := hid ((Below.refl _ _).alloc (Nat.le_refl _) _)
  clear h hA
  unfold mayI
  generalize goodB l tn gn rt = g at HG
  generalize hAllows tn gn rt d = s at HA
  cases g <;> cases s
  all_goals
    simp only [if_true, if_false, Bool.false_eq_true]
    go_enter Try.func14, Try.ntmps14
    go_wp2_with (first | (go_at_call 13; refine HG.out.mono ?_; rintro e w1 ⟨rfl, hB1⟩; have hk := blk_below hN.out hB1 (by simp); have n0 := cell_of hk 0; have n1 := cell_of hk 1; have n2 := cell_of hk 2; clear hk) | (go_at_call 33; refine (HA.out _).mono ?_; rintro e w3 ⟨rfl, hB3⟩))
    go_ret
    refine ⟨rfl, ?_⟩
    have hb1 := below_chain hb0.out hB1 (by simp)
    first | exact hb1 | exact below_chain hb1 hB3 hb1.size
end Go.Proofs.Ytgdmfledhhoedaa.T
