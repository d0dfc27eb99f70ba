/- Locks in memory: Held, Copy; the deeds, said of the locks as a whole. -/
import Derived.Test.YtofkodfdgbjboaaLock6
namespace Go.Burg.Lk
theorem countP_erase {α : Type} {p : α → Bool} {l : List α} {j : Nat} {x : α} (h : l[j]? = some x) : l.countP p = (l.eraseIdx j).countP p + if p x then 1 else 0 := by
  induction l generalizing j with
  | nil => simp at h
  | cons y l ih =>
    cases j with
    | zero => simp at h; subst h; simp [List.countP_cons]
    | succ j =>
      have := ih (j := j) (by simpa using h)
      simp only [List.eraseIdx_cons_succ, List.countP_cons]
      omega
end Go.Burg.Lk
namespace Go.Proofs.Ytofkodfdgbjboaa
open Go.ChangeShapes Go.WideShapes Go.ChangeAt Go.RowKit Go.Burg
open Go.Burg.Lk
section
variable {w : World} {b m : Nat} {l : List (RefK × Wd)} {tk : Int}

/-- How many words are held. -/
def heldL (l : List (RefK × Wd)) : Nat := l.countP (fun x => x.2.held)

set_option maxHeartbeats 1000000 in
theorem held_at (h : LocksAt w b m l tk) (hn : l.length ≤ 100000) : Calls Try.prog 17 #[.pointer (some ⟨b, 0, none⟩)] w fun e w' => e = .returned (.int .i64 (heldL l)) ∧ Below w.heap.size w w' := by
  have h1 := h.1
  have h2 := h.2
  have HT := hid (there_yes b m tk w h.1)
  have hlt := h.lt
  clear h
  obtain ⟨c0, c1, cf, cl⟩ := lfacts h1
  go_enter Try.func17, Try.ntmps17
  go_wp2_with (first | (go_at_call 26; refine HT.out.mono ?_; rintro e w' ⟨rfl, rfl⟩) | (at_range; refine wpList_range_map rfl _ _ rfl Try.underlying55 rfl h2 ?_; intro w0 hB0 hz0 hI0))
  go_frame
  have HI0 := hid hI0
  have HB0 := hid hB0
  clear hI0 hB0 h1 h2 c0 c1 cf cl
  go_loopw [2] (fun nv wr => ∃ left : List (RefK × Wd), nv = .int .i64 ((heldL l - heldL left : Nat) : Int) ∧ heldL left ≤ heldL l ∧ heldL l ≤ 100000 ∧ IterOf refV wV wr m w.heap.size left ∧ Below w.heap.size w wr) (fun _ wr => wr.rangeLeft m w.heap.size)
  case atStart => exact ⟨l, by simp, Nat.le_refl _, Nat.le_trans List.countP_le_length hn, HI0.out, HB0.out⟩
  case round =>
    obtain ⟨left, rfl, hle, hmx, hI, hB⟩ := hrel
    have HI := hid hI
    have HB := hid hB
    clear hI hB HI0 HB0
    go_wp2_with (at_next; refine wpList_next_iter rfl _ rfl rfl HI.out (fun hl0 => ?_) (fun j x w1 hx hI1 hM1 hz1 hen0 => ?_); rotate_left; have hen : (Instr.entry (.pointer (some ⟨w.heap.size, 0, none⟩))).run Try.prog w1 = .ok (.tuple #[refV x.1, .int .u64 x.2.1]) w1 := hen0; replace hx := hid hx; replace hM1 := hid hM1; clear hen0; rotate_right)
    · subst hl0
      go_ret
      exact ⟨by simp [heldL], HB.out⟩
    · have hB1 : Below w.heap.size w w1 := HB.out.trans (hM1.out.below HB.out.size (by omega))
      have hc : heldL left = heldL (left.eraseIdx j) + if x.2.held then 1 else 0 := countP_erase hx.out
      have hlen : (left.eraseIdx j).length < left.length := by
        have := (List.getElem?_eq_some_iff.1 hx.out).1
        rw [List.length_eraseIdx]
        split <;> omega
      have HI1 := hid hI1
      have HB1 := hid hB1
      have HC := hid hc
      have HLEN := hid hlen
      have HD := hid (fun w => Dead_any x.2 w)
      have HL := hid (fun w => Locked_any x.2 w)
      clear hM1 hx hc hlen hI1 hB1 hz1
      unfold Wd.held at HC
      cases hd : x.2.dead <;> cases hk : x.2.locked
      all_goals
        rw [hd] at HD HC
        rw [hk] at HL HC
        have hc := HC.out
        simp only [Bool.and_true, Bool.and_false, Bool.not_true, Bool.not_false, Bool.false_eq_true, if_false, if_true] at hc
        go_wp2_with (first | (go_at_call 27; refine (HD.out _).mono ?_; rintro e w2 ⟨rfl, hb2⟩) | (go_at_call 28; refine (HL.out _).mono ?_; rintro e w3 ⟨rfl, hb3⟩))
        go_roundw
        case rel =>
          refine ⟨left.eraseIdx j, congrArg (Value.int .i64) (by omega), by omega, hmx, ?_, ?_⟩
          · first | exact (HI1.out.keep hb3).keep hb2 | exact HI1.out.keep hb3
          · first | exact below_chain (below_chain HB1.out hb3 HB1.out.size) hb2 (Nat.le_trans HB1.out.size hb3.size) | exact below_chain HB1.out hb3 HB1.out.size
        case measure =>
          rw [HI.out.left_eq]
          first | rw [((HI1.out.keep hb3).keep hb2).left_eq] | rw [(HI1.out.keep hb3).left_eq]
          exact HLEN.out

theorem clone_any (b : Nat) (es : Array MapEntry) (clock : Nat) (w : World) (hb : w.heap[b]? = some (.map es clock)) :
    Calls Try.prog 44 #[.map (some b)] w fun e w' => e = .returned (.map (some w.heap.size)) ∧ w.alloc (.map es clock) = w' := by
  have hq := fun w => run_eql_map_nil_sl (P := Try.prog) w 55 _ _ (some b) Try.underlying55
  go_enter Try.func44, Try.ntmps44
  go_wp2
  rw [run_callFunc_extern (fn := Try.f62) (by kernel_rfl) (by kernel_rfl) (by kernel_rfl) (by kernel_rfl) (e := Extern.MapsClone.clone) (by kernel_rfl), run_maps_clone_sl w 55 hb]
  simp only [Result.andThen]
  rw [Oper.upon_value]
  go_wp2
  rw [run_typeAssert_map_sl _ 55 20 _ _ _ Try.underlying55]
  simp only [Result.andThen]
  rw [Oper.upon_value]
  go_wp2
  go_ret
  exact ⟨rfl, rfl⟩

set_option maxHeartbeats 1000000 in
theorem copy_at (h : LocksAt w b m l tk) :
    Calls Try.prog 25 #[.pointer (some ⟨b, 0, none⟩)] w fun e w' => ∃ b2 m2, e = .returned (.pointer (some ⟨b2, 0, none⟩)) ∧ LocksAt w' b2 m2 l tk ∧ w.heap.size ≤ b2 ∧ w.heap.size ≤ m2 ∧ Below w.heap.size w w' := by
  obtain ⟨es, clock, hm, hrest⟩ := h.2
  have hbm := h.lt
  have HP1 := hid h.1
  have HM := hid hm
  have HR := hid hrest
  have HT := hid (there_yes b m tk w h.1)
  clear hm hrest h
  go_enter Try.func25, Try.ntmps25
  go_wp2_with (go_at_call 26; refine HT.out.mono ?_; rintro e w' ⟨rfl, rfl⟩)
  refine wp_region_seqI 12 (Turn 5 (fun w1 => Below w.heap.size w w1 ∧ w1.heap.size = w.heap.size) (fun w1 => Below w.heap.size w w1 ∧ w1.heap[w.heap.size]? = some (.map es clock))) (by kernel_rfl) (by kernel_rfl) (by kernel_rfl) (Turn.start ⟨⟨rfl, rfl, rfl, Nat.le_refl _, fun _ _ => rfl⟩, rfl⟩) ?_
  dsimp only [List.take]
  iterate 5
    refine Seq.calm (a' := ?_) (by decide) ?_ ?_ ?_
    rotate_left
    ·
      intro w1 hw1
      have hB : Below w.heap.size w w1 := by rcases hw1 with h | h <;> exact h.1
      have k0 := blk_below HP1.out hB hbm.1
      obtain ⟨c0, c1, cf, cl⟩ := lfacts k0
      clear hw1 k0 hB
      go_wp2_with (fail)
      refine ⟨?_, id, id⟩
      exact rfl
    · kernel_rfl
  refine Seq.turn (a' := ?_) ?_ ?_ ?_
  rotate_left
  ·
    intro w1 hw1
    have hm1 := blk_below HM.out hw1.1 hbm.2
    have HB := hid hw1.1
    have HZ := hid hw1.2
    clear hw1
    go_wp2_with (go_at_call 44; refine (clone_any m es clock w1 hm1).mono ?_; rintro e w2 ⟨rfl, rfl⟩)
    refine ⟨?_, HB.out.alloc HB.out.size _, by rw [← HZ.out]; exact heap_new _ _⟩
    rw [HZ.out]
  · kernel_rfl
  iterate 6
    refine Seq.calm (a' := ?_) (by decide) ?_ ?_ ?_
    rotate_left
    ·
      intro w1 hw1
      have hB : Below w.heap.size w w1 := by rcases hw1 with h | h <;> exact h.1
      have k0 := blk_below HP1.out hB hbm.1
      obtain ⟨c0, c1, cf, cl⟩ := lfacts k0
      clear hw1 k0 hB
      go_wp2_with (fail)
      refine ⟨?_, id, id⟩
      exact rfl
    · kernel_rfl
  refine SeqI.nil ?_
  intro D w1 hD hI
  replace hI := hI.done (hD 5 (by omega))
  clear hD
  dsimp only [List.drop]
  obtain ⟨hB, hm2⟩ := hI
  have hlt := lt_of_block hm2
  have HM2 := hid hm2
  have HB := hid hB
  clear hB hm2
  go_wp2_with fail
  go_ret
  refine ⟨w1.heap.size, w.heap.size, rfl, ⟨?_, es, clock, blk_alloc HM2.out, HR.out⟩, by omega, Nat.le_refl _, HB.out.alloc HB.out.size _⟩
  exact heap_new _ _

/-! ### the deeds, said of the locks as a whole -/
theorem add_at' (h : LocksAt w b m l tk) (r : RefK) : Calls Try.prog 10 #[.pointer (some ⟨b, 0, none⟩), .agg #[.int .i64 r.1.1, .int .u32 r.1.2]] w fun e w' => e = .returned (.int .i64 (addL l r).1) ∧ LocksAt w' b m (addL l r).2 tk ∧ Mod (Own b m) w w' :=
  (add_at h r).mono fun _ _ ⟨he, hM, hX⟩ => ⟨he, ⟨(hX.block b h.lt.1 h.ne).trans h.1, hM⟩, hX.mono fun _ _ h => .inr h⟩
theorem gone_at' (h : LocksAt w b m l tk) (r : RefK) : Calls Try.prog 23 #[.pointer (some ⟨b, 0, none⟩), .agg #[.int .i64 r.1.1, .int .u32 r.1.2]] w fun e w' => e = .returned (.int .i64 (goneL l r).1) ∧ LocksAt w' b m (goneL l r).2 tk ∧ Mod (Own b m) w w' :=
  (gone_at h r).mono fun _ _ ⟨he, hM, hX⟩ => ⟨he, ⟨(hX.block b h.lt.1 h.ne).trans h.1, hM⟩, hX.mono fun _ _ h => .inr h⟩
theorem drop_at (h : LocksAt w b m l tk) (r : RefK) : Calls Try.prog 14 #[.pointer (some ⟨b, 0, none⟩), .agg #[.int .i64 r.1.1, .int .u32 r.1.2]] w fun e w' => e = .returned (.int .i64 (turnL l r Wd.drop).1) ∧ LocksAt w' b m (turnL l r Wd.drop).2 tk ∧ Mod (Own b m) w w' :=
  (drop_at0 h r).mono fun _ _ ⟨he, hM, hX⟩ => ⟨he, ⟨(hX.block b h.lt.1 h.ne).trans h.1, hM⟩, hX.mono fun _ _ h => .inr h⟩
theorem done_at (h : LocksAt w b m l tk) (r : RefK) : Calls Try.prog 15 #[.pointer (some ⟨b, 0, none⟩), .agg #[.int .i64 r.1.1, .int .u32 r.1.2]] w fun e w' => e = .returned (.int .i64 (turnL l r Wd.done).1) ∧ LocksAt w' b m (turnL l r Wd.done).2 tk ∧ Mod (Own b m) w w' :=
  (done_at0 h r).mono fun _ _ ⟨he, hM, hX⟩ => ⟨he, ⟨(hX.block b h.lt.1 h.ne).trans h.1, hM⟩, hX.mono fun _ _ h => .inr h⟩
theorem kill_at (h : LocksAt w b m l tk) (r : RefK) : Calls Try.prog 16 #[.pointer (some ⟨b, 0, none⟩), .agg #[.int .i64 r.1.1, .int .u32 r.1.2]] w fun e w' => e = .returned (.int .i64 (turnL l r Wd.kill).1) ∧ LocksAt w' b m (turnL l r Wd.kill).2 tk ∧ Mod (Own b m) w w' :=
  (kill_at0 h r).mono fun _ _ ⟨he, hM, hX⟩ => ⟨he, ⟨(hX.block b h.lt.1 h.ne).trans h.1, hM⟩, hX.mono fun _ _ h => .inr h⟩
end
end Go.Proofs.Ytofkodfdgbjboaa
