/- LockApart: the walk. -/
import Derived.Test.YtofkodfdgbjboaaLockApartM
import Derived.Deep.LoopGhost
namespace Go.Proofs.Ytofkodfdgbjboaa
open Go.ChangeShapes Go.WideShapes Go.ChangeAt Go.RowKit Go.Burg
open Go.Burg.Lk

section
variable {w : World} {b m : Nat} {l : List (RefK × Wd)} {tk : Int}
theorem deed_at (h : LocksAt w b m l tk) (d : LDeed) (y : Wd) (h0 : 0 ≤ tk) (h1 : tk ≤ 300) : Calls Try.prog 20 #[.pointer (some ⟨b, 0, none⟩), .agg #[.int .i64 d.what, .int .i64 d.ref.1.1, .int .u32 d.ref.1.2, .int .u64 d.w.1], .int .u64 y.1] w fun e w' => e = .returned (.bool (deedL (d.what % 7) l tk d.ref d.w y).1) ∧
    LocksAt w' b m (deedL (d.what % 7) l tk d.ref d.w y).2.1 (deedL (d.what % 7) l tk d.ref d.w y).2.2 ∧ Mod (Own b m) w w' := by
  have hA := h.alloc (.cells #[.int .i64 d.what, .int .i64 d.ref.1.1, .int .u32 d.ref.1.2, .int .u64 d.w.1] 38)
  have hN := heap_new w (.cells #[.int .i64 d.what, .int .i64 d.ref.1.1, .int .u32 d.ref.1.2, .int .u64 d.w.1] 38)
  have c0 := cell_of hN 0
  have c1 := cell_of hN 1
  have c2 := cell_of hN 2
  have c3 := cell_of hN 3
  have hp : d.what % 7 = 0 ∨ d.what % 7 = 1 ∨ d.what % 7 = 2 ∨ d.what % 7 = 3 ∨ d.what % 7 = 4 ∨ d.what % 7 = 5 ∨ d.what % 7 = 6 := by omega
  rcases hp with hp | hp | hp | hp | hp | hp | hp
  · have HD := hid (add_at' hA d.ref)
    have HP := hid hp
    rw [hp]
    clear hp h0 h1
    unfold deedL
    simp only [if_true, if_false, Int.reduceEq]
    generalize addL l d.ref = q at *
    obtain ⟨q1, q2⟩ := q
    simp only [] at HD ⊢
    have HA := hid hA
    clear hA h hN
    go_enter Try.func20, Try.ntmps20
    go_wp2_with (first | (go_at_call 12; refine (pick_any d.what 7 0 _ (by decide) (by decide) HP.out).mono ?_; rintro e wp ⟨rfl, rfl⟩) | (go_at_call 10; refine (HD.out).mono ?_; rintro e wq ⟨rfl, hL, hX⟩))
    go_ret
    exact ⟨rfl, hL, Mod.trans (S := Own b m) ((Mod.refl _ w).alloc _) hX (fun _ _ h => h)⟩
  · have HD := hid (gone_at' hA d.ref)
    have HP := hid hp
    rw [hp]
    clear hp h0 h1
    unfold deedL
    simp only [if_true, if_false, Int.reduceEq]
    generalize goneL l d.ref = q at *
    obtain ⟨q1, q2⟩ := q
    simp only [] at HD ⊢
    have HA := hid hA
    clear hA h hN
    go_enter Try.func20, Try.ntmps20
    go_wp2_with (first | (go_at_call 12; refine (pick_any d.what 7 1 _ (by decide) (by decide) HP.out).mono ?_; rintro e wp ⟨rfl, rfl⟩) | (go_at_call 23; refine (HD.out).mono ?_; rintro e wq ⟨rfl, hL, hX⟩))
    go_ret
    exact ⟨rfl, hL, Mod.trans (S := Own b m) ((Mod.refl _ w).alloc _) hX (fun _ _ h => h)⟩
  · have HD := hid (lock_at0 hA d.ref d.w (by omega) h0)
    have HP := hid hp
    rw [hp]
    clear hp h0 h1
    unfold deedL
    simp only [if_true, if_false, Int.reduceEq]
    generalize lockL l d.ref d.w = q at *
    obtain ⟨q1, q2⟩ := q
    have HA := hid hA
    clear hA h hN
    cases q1 <;> simp only [if_true, if_false, Bool.false_eq_true] at HD ⊢
    all_goals
      go_enter Try.func20, Try.ntmps20
      go_wp2_with (first | (go_at_call 12; refine (pick_any d.what 7 2 _ (by decide) (by decide) HP.out).mono ?_; rintro e wp ⟨rfl, rfl⟩) | (go_at_call 13; refine (HD.out).mono ?_; rintro e wq ⟨rfl, hL, hX⟩))
      go_ret
      exact ⟨rfl, hL, Mod.trans (S := Own b m) ((Mod.refl _ w).alloc _) hX (fun _ _ h => h)⟩
  · have HD := hid (lock_at0 hA d.ref y (by omega) h0)
    have HP := hid hp
    rw [hp]
    clear hp h0 h1
    unfold deedL
    simp only [if_true, if_false, Int.reduceEq]
    generalize lockL l d.ref y = q at *
    obtain ⟨q1, q2⟩ := q
    have HA := hid hA
    clear hA h hN
    cases q1 <;> simp only [if_true, if_false, Bool.false_eq_true] at HD ⊢
    all_goals
      go_enter Try.func20, Try.ntmps20
      go_wp2_with (first | (go_at_call 12; refine (pick_any d.what 7 3 _ (by decide) (by decide) HP.out).mono ?_; rintro e wp ⟨rfl, rfl⟩) | (go_at_call 13; refine (HD.out).mono ?_; rintro e wq ⟨rfl, hL, hX⟩))
      go_ret
      exact ⟨rfl, hL, Mod.trans (S := Own b m) ((Mod.refl _ w).alloc _) hX (fun _ _ h => h)⟩
  · have HD := hid (drop_at hA d.ref)
    have HP := hid hp
    rw [hp]
    clear hp h0 h1
    unfold deedL
    simp only [if_true, if_false, Int.reduceEq]
    generalize turnL l d.ref Wd.drop = q at *
    obtain ⟨q1, q2⟩ := q
    simp only [] at HD ⊢
    have HA := hid hA
    clear hA h hN
    go_enter Try.func20, Try.ntmps20
    go_wp2_with (first | (go_at_call 12; refine (pick_any d.what 7 4 _ (by decide) (by decide) HP.out).mono ?_; rintro e wp ⟨rfl, rfl⟩) | (go_at_call 14; refine (HD.out).mono ?_; rintro e wq ⟨rfl, hL, hX⟩))
    go_ret
    exact ⟨rfl, hL, Mod.trans (S := Own b m) ((Mod.refl _ w).alloc _) hX (fun _ _ h => h)⟩
  · have HD := hid (done_at hA d.ref)
    have HP := hid hp
    rw [hp]
    clear hp h0 h1
    unfold deedL
    simp only [if_true, if_false, Int.reduceEq]
    generalize turnL l d.ref Wd.done = q at *
    obtain ⟨q1, q2⟩ := q
    simp only [] at HD ⊢
    have HA := hid hA
    clear hA h hN
    go_enter Try.func20, Try.ntmps20
    go_wp2_with (first | (go_at_call 12; refine (pick_any d.what 7 5 _ (by decide) (by decide) HP.out).mono ?_; rintro e wp ⟨rfl, rfl⟩) | (go_at_call 15; refine (HD.out).mono ?_; rintro e wq ⟨rfl, hL, hX⟩))
    go_ret
    exact ⟨rfl, hL, Mod.trans (S := Own b m) ((Mod.refl _ w).alloc _) hX (fun _ _ h => h)⟩
  · have HD := hid (kill_at hA d.ref)
    have HP := hid hp
    rw [hp]
    clear hp h0 h1
    unfold deedL
    simp only [if_false, Int.reduceEq]
    generalize turnL l d.ref Wd.kill = q at *
    obtain ⟨q1, q2⟩ := q
    simp only [] at HD ⊢
    have HA := hid hA
    clear hA h hN
    go_enter Try.func20, Try.ntmps20
    go_wp2_with (first | (go_at_call 12; refine (pick_any d.what 7 6 _ (by decide) (by decide) HP.out).mono ?_; rintro e wp ⟨rfl, rfl⟩) | (go_at_call 16; refine (HD.out).mono ?_; rintro e wq ⟨rfl, hL, hX⟩))
    go_ret
    exact ⟨rfl, hL, Mod.trans (S := Own b m) ((Mod.refl _ w).alloc _) hX (fun _ _ h => h)⟩
end

/-- Two locks that a law has made, and its Ref's cell. -/
structure Two (w : World) (b m b2 m2 c : Nat) (r : RefK) (la : List (RefK × Wd)) (ta : Int) (lb : List (RefK × Wd)) (tb : Int) (w1 : World) : Prop where
  fa : LocksAt w1 b m la ta
  fb : LocksAt w1 b2 m2 lb tb
  rc : w1.heap[c]? = some (.cells #[.int .i64 r.1.1, .int .u32 r.1.2] 30)
  mod : Mod (fun i => w.heap.size ≤ i) w w1
  ge : w.heap.size ≤ b ∧ w.heap.size ≤ m ∧ w.heap.size ≤ b2 ∧ w.heap.size ≤ m2
  ne : b ≠ b2 ∧ b ≠ m2 ∧ m ≠ b2 ∧ m ≠ m2
  cn : c ≠ b ∧ c ≠ m ∧ c ≠ b2 ∧ c ≠ m2
section
variable {w w1 w2 : World} {b m b2 m2 c : Nat} {r : RefK} {la lb l' : List (RefK × Wd)} {ta tb t' : Int}
theorem Two.keep (h : Two w b m b2 m2 c r la ta lb tb w1) (hB : Below w1.heap.size w1 w2) : Two w b m b2 m2 c r la ta lb tb w2 :=
  ⟨h.fa.keep hB, h.fb.keep hB, blk_below h.rc hB (lt_of_block h.rc), mod_bel h.mod hB, h.ge, h.ne, h.cn⟩
theorem Two.turnA (h : Two w b m b2 m2 c r la ta lb tb w1) (hL : LocksAt w2 b m l' t') (hX : Mod (Own b m) w1 w2) : Two w b m b2 m2 c r l' t' lb tb w2 := by
  obtain ⟨n1, n2, n3, n4⟩ := h.ne
  obtain ⟨c1, c2, c3, c4⟩ := h.cn
  obtain ⟨g1, g2, g3, g4⟩ := h.ge
  exact ⟨hL, h.fb.mod hX (fun e => by rcases e with e | e; exact n1 e.symm; exact n3 e.symm) (fun e => by rcases e with e | e; exact n2 e.symm; exact n4 e.symm), (hX.block c (lt_of_block h.rc) (fun e => by rcases e with e | e; exact c1 e; exact c2 e)).trans h.rc,
    h.mod.trans hX (fun _ _ e => by rcases e with e | e <;> subst e; exact g1; exact g2), h.ge, h.ne, h.cn⟩
theorem Two.turnB (h : Two w b m b2 m2 c r la ta lb tb w1) (hL : LocksAt w2 b2 m2 l' t') (hX : Mod (Own b2 m2) w1 w2) : Two w b m b2 m2 c r la ta l' t' w2 := by
  obtain ⟨n1, n2, n3, n4⟩ := h.ne
  obtain ⟨c1, c2, c3, c4⟩ := h.cn
  obtain ⟨g1, g2, g3, g4⟩ := h.ge
  exact ⟨h.fa.mod hX (fun e => by rcases e with e | e; exact n1 e; exact n2 e) (fun e => by rcases e with e | e; exact n3 e; exact n4 e), hL, (hX.block c (lt_of_block h.rc) (fun e => by rcases e with e | e; exact c3 e; exact c4 e)).trans h.rc,
    h.mod.trans hX (fun _ _ e => by rcases e with e | e <;> subst e; exact g3; exact g4), h.ge, h.ne, h.cn⟩
end
/-- A block beside the two locks stays. -/
theorem side_any {w1 w2 : World} {b m n : Nat} {o : Obj} (hX : Mod (Own b m) w1 w2) (hn : w1.heap[n]? = some o) (h1 : n ≠ b) (h2 : n ≠ m) : w2.heap[n]? = some o :=
  (hX.block n (lt_of_block hn) (fun e => by rcases e with e | e; exact h1 e; exact h2 e)).trans hn

theorem beg_word (l : List (RefK × Wd)) (r : RefK) : (beg l r).1 = ((lkp l r).getD w0).1 := by
  unfold beg
  cases lkp l r <;> rfl
theorem beg_same {l l' : List (RefK × Wd)} {r : RefK} (h : lkp l r = lkp l' r) : beg l r = beg l' r := by unfold beg; rw [h]

/-- What holds at a round's head: of the two locks, and of how often others were locked (T). -/
structure Ap (k : Nat) (r : RefK) (la : List (RefK × Wd)) (ta : Int) (lb : List (RefK × Wd)) (tb T : Int) : Prop where
  same : lkp la r = lkp lb r
  diff : ta - T = tb
  t0 : 0 ≤ T ∧ T ≤ k
  a0 : 0 ≤ ta ∧ ta ≤ k
  b0 : 0 ≤ tb ∧ tb ≤ k

theorem Ap.own {k : Nat} {r : RefK} {la lb : List (RefK × Wd)} {ta tb T : Int} (h : Ap k r la ta lb tb T) (d : LDeed) (y : Wd) (hd : d.ref = r) :
    (deedL (d.what % 7) la ta d.ref d.w y).1 = (deedL (d.what % 7) lb tb d.ref d.w y).1 ∧ Ap (k + 1) r (deedL (d.what % 7) la ta d.ref d.w y).2.1 (deedL (d.what % 7) la ta d.ref d.w y).2.2 (deedL (d.what % 7) lb tb d.ref d.w y).2.1 (deedL (d.what % 7) lb tb d.ref d.w y).2.2 T := by
  obtain ⟨e1, e2, e3⟩ := deed_view (d.what % 7) la ta d.ref r d.w y
  obtain ⟨f1, f2, f3⟩ := deed_view (d.what % 7) lb tb d.ref r d.w y
  have hs := h.same
  rw [← hd] at hs
  rw [hs] at e1 e2 e3
  obtain ⟨v0, v1⟩ := deedV_taken (d.what % 7) d.ref (lkp lb d.ref) d.w y
  have := h.t0; have := h.a0; have := h.b0; have := h.diff
  refine ⟨e1.trans f1.symm, ?_, by omega, by omega, by omega, by omega⟩
  rw [e2, f2, if_pos hd.symm, if_pos hd.symm]
theorem Ap.else {k : Nat} {r : RefK} {la lb : List (RefK × Wd)} {ta tb T : Int} (h : Ap k r la ta lb tb T) (d : LDeed) (y : Wd) (hd : d.ref ≠ r) :
    Ap (k + 1) r (deedL (d.what % 7) la ta d.ref d.w y).2.1 (deedL (d.what % 7) la ta d.ref d.w y).2.2 lb tb (T + (deedL (d.what % 7) la ta d.ref d.w y).2.2 - ta) := by
  obtain ⟨e1, e2, e3⟩ := deed_view (d.what % 7) la ta d.ref r d.w y
  obtain ⟨v0, v1⟩ := deedV_taken (d.what % 7) d.ref (lkp la d.ref) d.w y
  have := h.t0; have := h.a0; have := h.b0; have := h.diff
  refine ⟨?_, by omega, by omega, by omega, by omega⟩
  rw [e2, if_neg (fun e => hd e.symm)]
  exact h.same
theorem deed_cells {w wr : World} {a : Option Addr} {len k : Nat} {ds : Nat → LDeed} (hD : DeedsAt w a len ds) (hM : Mod (fun i => w.heap.size ≤ i) w wr) (hk : k < len) :
    ∃ bl off, a = some ⟨bl, off, none⟩ ∧ wr.cell? ⟨bl, off + k * 4, none⟩ = some (.int .i64 (ds k).what) ∧ wr.cell? ⟨bl, off + k * 4 + 1, none⟩ = some (.int .i64 (ds k).ref.1.1) ∧
    wr.cell? ⟨bl, off + k * 4 + 2, none⟩ = some (.int .u32 (ds k).ref.1.2) ∧ wr.cell? ⟨bl, off + k * 4 + 3, none⟩ = some (.int .u64 (ds k).w.1) := by
  obtain ⟨bl, off, ha, hbl, hall⟩ := hD (by omega)
  obtain ⟨d0, d1, d2, d3⟩ := hall k hk
  have hc : ∀ j, wr.cell? ⟨bl, j, none⟩ = w.cell? ⟨bl, j, none⟩ := fun j => World.cell?_of_block (w := w) (hM.block bl hbl (by omega))
  exact ⟨bl, off, ha, (hc _).trans d0, (hc _).trans d1, (hc _).trans d2, (hc _).trans d3⟩

set_option maxRecDepth 20000 in
set_option maxHeartbeats 4000000 in
theorem apart_any (a : Option Addr) (len cap : Nat) (ds : Nat → LDeed) (r : RefK) (w : World) (hD : DeedsAt w a len ds) :
    Calls Try.prog 4 #[.slice a len cap, .agg #[.int .i64 r.1.1, .int .u32 r.1.2]] w fun e w' => e = .returned (.bool true) ∧ Below w.heap.size w w' := by
  go_enter Try.func4, Try.ntmps4
  have hM0 : Mod (fun i => w.heap.size ≤ i) w (w.alloc (.cells #[.int .i64 r.1.1, .int .u32 r.1.2] 30)) := (Mod.refl _ _).alloc _
  have hR0 : (w.alloc (.cells #[.int .i64 r.1.1, .int .u32 r.1.2] 30)).heap[w.heap.size]? = some (.cells #[.int .i64 r.1.1, .int .u32 r.1.2] 30) := heap_new _ _
  go_wp2_with fail
  refine (awake_any _).mono ?_
  rintro e w1 ⟨rfl, hB⟩
  have hM := mod_bel hM0 hB
  have hR := blk_below hR0 hB (by simp)
  clear hB hM0 hR0
  by_cases hlen : 200 < len
  · have hl2 : decide ((200 : Int) < len) = true := by simp; omega
    go_wp2_with fail
    go_ret
    exact ⟨rfl, mod_end hM⟩
  have hl2 : decide ((200 : Int) < len) = false := by simp; omega
  go_wp2_with fail
  refine (new_at _).mono ?_
  rintro e w2 ⟨b, m, rfl, hP, hb, hm, hB⟩
  have hz := lt_of_block hR
  have hb0 := Nat.le_trans hM.size hb
  have hm0 := Nat.le_trans hM.size hm
  have hR := blk_below hR hB (lt_of_block hR)
  have hM := mod_bel hM hB
  have hl := hP.lt
  clear hB
  go_wp2_with fail
  refine (new_at _).mono ?_
  rintro e w3 ⟨b2, m2, rfl, hP2, hb2, hm2, hB⟩
  have H : Two w b m b2 m2 w.heap.size r [] 0 [] 0 w3 := ⟨hP.keep hB, hP2, blk_below hR hB (lt_of_block hR), mod_bel hM hB, ⟨hb0, hm0, Nat.le_trans hM.size hb2, Nat.le_trans hM.size hm2⟩, ⟨by omega, by omega, by omega, by omega⟩, ⟨by omega, by omega, by omega, by omega⟩⟩
  clear hP hR hM hb hm hb0 hm0 hl hP2 hb2 hm2 hB hz
  have r0 := cell_of H.rc 0
  have r1 := cell_of H.rc 1
  go_wp2_with fail
  clear r0 r1
  refine (add_at' H.fa r).mono ?_
  rintro e w4 ⟨rfl, hL, hX⟩
  have H := H.turnA hL hX
  clear hL hX
  have r0 := cell_of H.rc 0
  have r1 := cell_of H.rc 1
  go_wp2_with fail
  clear r0 r1
  refine (add_at' H.fb r).mono ?_
  rintro e w5 ⟨rfl, hL, hX⟩
  have H := H.turnB hL hX
  clear hL hX
  generalize addL [] r = q0 at *
  obtain ⟨er, l0⟩ := q0
  simp only [] at H
  have HR := hid H
  clear H
  go_wp2_with fail
  go_loopg [7, 8] 200 (fun g tv iv wr => ∃ (k : Nat) (la lb : List (RefK × Wd)) (ta tb T : Int), g = 200 - k ∧ k ≤ len ∧ k ≤ 200 ∧ iv = .int .i64 k ∧ tv = .int .i64 T ∧ Ap k r la ta lb tb T ∧ Two w b m b2 m2 w.heap.size r la ta lb tb wr)
  case atStart => exact ⟨0, l0, l0, 0, 0, 0, rfl, Nat.zero_le _, by omega, rfl, rfl, ⟨rfl, rfl, by omega, by omega, by omega⟩, HR.out⟩
  case round =>
    clear HR
    obtain ⟨k, la, lb, ta, tb, T, rfl, hk, hk2, rfl, rfl, hA, H⟩ := hrel
    have HA := hid hA
    have HH := hid H
    by_cases hlt : k < len
    · obtain ⟨bl, off, rfl, d0, d1, d2, d3⟩ := deed_cells hD H.mod hlt
      have hcond : decide ((k : Int) < len) = true := by simp; exact hlt
      generalize ds k = d at d0 d1 d2 d3
      clear H hA
      have hlA := HH.out.fa.lt
      have hlB := HH.out.fb.lt
      have H := HH.out.keep ((Below.refl _ _).alloc (Nat.le_refl _) (.cells #[.int .i64 d.what, .int .i64 d.ref.1.1, .int .u32 d.ref.1.2, .int .u64 d.w.1] 38))
      have hN := heap_new wr (.cells #[.int .i64 d.what, .int .i64 d.ref.1.1, .int .u32 d.ref.1.2, .int .u64 d.w.1] 38)
      have hn1 : wr.heap.size ≠ b := by omega
      have hn2 : wr.heap.size ≠ m := by omega
      have hn3 : wr.heap.size ≠ b2 := by omega
      have hn4 : wr.heap.size ≠ m2 := by omega
      have hN0 := lt_of_block hN
      go_wp2_with fail
      clear d0 d1 d2 d3 HH hlA hlB
      generalize wr.heap.size = n at *
      have R := begin_at H.fa d.ref
      rw [beg_word] at R
      generalize (lkp la d.ref).getD w0 = y at R
      generalize (beg la d.ref).2 = s0 at R
      refine R.mono ?_
      clear R
      rintro e v1 ⟨rfl, hB⟩
      have H := H.keep hB
      have hN := blk_below hN hB hN0
      clear hB hN0
      have x0 := cell_of hN 0
      have x1 := cell_of hN 1
      have x2 := cell_of hN 2
      have x3 := cell_of hN 3
      go_wp2_with fail
      refine (taken_at H.fa).mono ?_
      rintro e v2 ⟨rfl, rfl⟩
      go_wp2_with fail
      have ha0 := HA.out.a0
      refine (deed_at H.fa d y ha0.1 (by omega)).mono ?_
      rintro e v3 ⟨rfl, hL, hX⟩
      have hN := side_any hX hN hn1 hn2
      have H := H.turnA hL hX
      clear hL hX x0 x1 x2 x3
      have HH := hid H
      have HN := hid hN
      have x0 := cell_of HN.out 0
      have x1 := cell_of HN.out 1
      have x2 := cell_of HN.out 2
      have x3 := cell_of HN.out 3
      have r0 := cell_of H.rc 0
      have r1 := cell_of H.rc 1
      clear H hN
      by_cases hd : d.ref = r
      · obtain ⟨hres, hA2⟩ := HA.out.own d y hd
        have HA2 := hid hA2
        have HD := hid hd
        rw [hres]
        generalize (deedL (d.what % 7) la ta d.ref d.w y) = q1 at *
        have hb0 := HA.out.b0
        have HDD := hid (deed_at HH.out.fb d y hb0.1 (by omega))
        generalize (deedL (d.what % 7) lb tb d.ref d.w y) = q2 at *
        obtain ⟨e1, la2, ta2⟩ := q1
        obtain ⟨e2, lb2, tb2⟩ := q2
        simp only [] at HA2 HH HDD ⊢
        have hq1 : (d.ref.1.1 == r.1.1) = true := by rw [hd]; simp
        have hq2 : (d.ref.1.2 == r.1.2) = true := by rw [hd]; simp
        clear hA2 hres hd
        go_wp2_with fail
        clear x0 x1 x2 x3 r0 r1
        refine HDD.out.mono ?_
        rintro e v4 ⟨rfl, hL, hX⟩
        have hN := side_any hX HN.out hn3 hn4
        have H := HH.out.turnB hL hX
        clear hL hX HN HH HDD
        have x0 := cell_of hN 0
        have x1 := cell_of hN 1
        have x2 := cell_of hN 2
        have x3 := cell_of hN 3
        have r0 := cell_of H.rc 0
        have r1 := cell_of H.rc 1
        clear hN
        go_wp2_with fail
        clear x0 x1 x2 x3 r0 r1 hq1 hq2
        have hbeg := beg_same HA2.out.same
        have hlk := HA2.out.same
        refine (begin_at H.fa r).mono ?_
        rintro e v5 ⟨rfl, hB⟩
        have H := H.keep hB
        clear hB
        have r0 := cell_of H.rc 0
        have r1 := cell_of H.rc 1
        go_wp2_with fail
        clear r0 r1
        rw [beg_word]
        refine (begin_at H.fb r).mono ?_
        rintro e v6 ⟨rfl, hB⟩
        rw [beg_word]
        have H := H.keep hB
        clear hB
        generalize (lkp lb2 r).getD w0 = z
        generalize (beg lb2 r).2 = s1
        have HC1 := hid (fun (w1 : World) (h : LocksAt w1 b m la2 ta2) => check_at h r z)
        have HC2 := hid (fun (w1 : World) (h : LocksAt w1 b2 m2 lb2 tb2) => check_at h r z)
        rw [hlk] at HC1
        generalize decide (lkp lb2 r = some z) = vv at HC1 HC2
        have hdf := HA2.out.diff
        have hb0 := HA2.out.b0
        have HH := hid H
        have hrl := lt_of_block H.rc
        clear H hbeg hlk
        go_wp2_with fail
        refine wp_region_seq 28 (fun w1 => Below (v6).heap.size (v6) w1) (by kernel_rfl) (by kernel_rfl) (by kernel_rfl) ⟨rfl, rfl, rfl, Nat.le_refl _, fun _ _ => rfl⟩ ?_
        dsimp only [List.take]
        iterate 13
          refine Seq.cons (a' := ?_) ?_ ?_ ?_
          rotate_left
          ·
            intro w1 hw1
            have hK := hid (HH.out.keep hw1)
            have r0 := cell_of hK.out.rc 0
            have r1 := cell_of hK.out.rc 1
            go_wp2_with (go_at_call 18; refine (HC1.out _ hK.out.fa).mono ?_; rintro e w' ⟨rfl, hb⟩)
            refine ⟨?_, by first | assumption | (simpa using below_chain hw1 hb hw1.size)⟩
            exact rfl
          · kernel_rfl
        iterate 4
          refine Seq.cons (a' := ?_) ?_ ?_ ?_
          rotate_left
          ·
            intro w1 hw1
            have hK := hid (HH.out.keep hw1)
            have r0 := cell_of hK.out.rc 0
            have r1 := cell_of hK.out.rc 1
            go_wp2_with (go_at_call 18; refine (HC2.out _ hK.out.fb).mono ?_; rintro e w' ⟨rfl, hb⟩)
            refine ⟨?_, by first | assumption | (simpa using below_chain hw1 hb hw1.size)⟩
            exact rfl
          · kernel_rfl
        iterate 5
          refine Seq.cons (a' := ?_) ?_ ?_ ?_
          rotate_left
          ·
            intro w1 hw1
            have hK := hid (HH.out.keep hw1)
            have r0 := cell_of hK.out.rc 0
            have r1 := cell_of hK.out.rc 1
            go_wp2_with (go_at_call 19; refine (taken_at hK.out.fa).mono ?_; rintro e w' ⟨rfl, rfl⟩)
            refine ⟨?_, by first | assumption | (simpa using below_chain hw1 hb hw1.size)⟩
            exact rfl
          · kernel_rfl
        iterate 6
          refine Seq.cons (a' := ?_) ?_ ?_ ?_
          rotate_left
          ·
            intro w1 hw1
            have hK := hid (HH.out.keep hw1)
            have r0 := cell_of hK.out.rc 0
            have r1 := cell_of hK.out.rc 1
            go_wp2_with (go_at_call 19; refine (taken_at hK.out.fb).mono ?_; rintro e w' ⟨rfl, rfl⟩)
            refine ⟨?_, by first | assumption | (simpa using below_chain hw1 hb hw1.size)⟩
            exact rfl
          · kernel_rfl
        refine SeqI.nil ?_
        intro _ w1 _ hw1
        dsimp only [List.drop]
        go_wp2_with fail
        go_roundg (200 - (k + 1))
        case measure => omega
        case rel => exact ⟨k + 1, la2, lb2, ta2, tb2, _, rfl, by omega, by omega, by go_num, rfl, HA2.out, HH.out.keep hw1⟩
      · have hA2 := HA.out.else d y hd
        have HA2 := hid hA2
        generalize (deedL (d.what % 7) la ta d.ref d.w y) = q1 at *
        obtain ⟨e1, la2, ta2⟩ := q1
        simp only [] at HA2 HH ⊢
        generalize hT2 : T + ta2 - ta = T2 at HA2
        have hq : ¬ (d.ref.1.1 = r.1.1 ∧ d.ref.1.2 = r.1.2) := fun e => hd (Subtype.ext (Prod.ext e.1 e.2))
        have t0 := HA.out.t0
        have a0' := HA2.out.a0
        clear hA2 hd
        by_cases h1 : d.ref.1.1 = r.1.1
        · have hq1 : (d.ref.1.1 == r.1.1) = true := by simpa using h1
          have hq2 : (d.ref.1.2 == r.1.2) = false := by simpa using fun e => hq ⟨h1, e⟩
          clear h1 hq
          go_wp2_with fail
          clear x0 x1 x2 x3 r0 r1
          refine (taken_at HH.out.fa).mono ?_
          rintro e v4 ⟨rfl, rfl⟩
          have H := HH.out
          have hw1 : -4000000000 ≤ T + ta2 := by omega
          have hw2 : T + ta2 ≤ 4000000000 := by omega
          have r0 := cell_of H.rc 0
          have r1 := cell_of H.rc 1
          go_wp2_with fail
          clear r0 r1 hq1 HN HH
          have hbeg := beg_same HA2.out.same
          have hlk := HA2.out.same
          refine (begin_at H.fa r).mono ?_
          rintro e v5 ⟨rfl, hB⟩
          have H := H.keep hB
          clear hB
          have r0 := cell_of H.rc 0
          have r1 := cell_of H.rc 1
          go_wp2_with fail
          clear r0 r1
          rw [beg_word]
          refine (begin_at H.fb r).mono ?_
          rintro e v6 ⟨rfl, hB⟩
          rw [beg_word]
          have H := H.keep hB
          clear hB
          generalize (lkp lb r).getD w0 = z
          generalize (beg lb r).2 = s1
          have HC1 := hid (fun (w1 : World) (h : LocksAt w1 b m la2 ta2) => check_at h r z)
          have HC2 := hid (fun (w1 : World) (h : LocksAt w1 b2 m2 lb tb) => check_at h r z)
          rw [hlk] at HC1
          generalize decide (lkp lb r = some z) = vv at HC1 HC2
          have hdf := HA2.out.diff
          have hb0 := HA2.out.b0
          have HH := hid H
          have hrl := lt_of_block H.rc
          clear H hbeg hlk
          go_wp2_with fail
          refine wp_region_seq 28 (fun w1 => Below (v6).heap.size (v6) w1) (by kernel_rfl) (by kernel_rfl) (by kernel_rfl) ⟨rfl, rfl, rfl, Nat.le_refl _, fun _ _ => rfl⟩ ?_
          dsimp only [List.take]
          iterate 13
            refine Seq.cons (a' := ?_) ?_ ?_ ?_
            rotate_left
            ·
              intro w1 hw1
              have hK := hid (HH.out.keep hw1)
              have r0 := cell_of hK.out.rc 0
              have r1 := cell_of hK.out.rc 1
              go_wp2_with (go_at_call 18; refine (HC1.out _ hK.out.fa).mono ?_; rintro e w' ⟨rfl, hb⟩)
              refine ⟨?_, by first | assumption | (simpa using below_chain hw1 hb hw1.size)⟩
              exact rfl
            · kernel_rfl
          iterate 4
            refine Seq.cons (a' := ?_) ?_ ?_ ?_
            rotate_left
            ·
              intro w1 hw1
              have hK := hid (HH.out.keep hw1)
              have r0 := cell_of hK.out.rc 0
              have r1 := cell_of hK.out.rc 1
              go_wp2_with (go_at_call 18; refine (HC2.out _ hK.out.fb).mono ?_; rintro e w' ⟨rfl, hb⟩)
              refine ⟨?_, by first | assumption | (simpa using below_chain hw1 hb hw1.size)⟩
              exact rfl
            · kernel_rfl
          iterate 5
            refine Seq.cons (a' := ?_) ?_ ?_ ?_
            rotate_left
            ·
              intro w1 hw1
              have hK := hid (HH.out.keep hw1)
              have r0 := cell_of hK.out.rc 0
              have r1 := cell_of hK.out.rc 1
              go_wp2_with (go_at_call 19; refine (taken_at hK.out.fa).mono ?_; rintro e w' ⟨rfl, rfl⟩)
              refine ⟨?_, by first | assumption | (simpa using below_chain hw1 hb hw1.size)⟩
              exact rfl
            · kernel_rfl
          iterate 6
            refine Seq.cons (a' := ?_) ?_ ?_ ?_
            rotate_left
            ·
              intro w1 hw1
              have hK := hid (HH.out.keep hw1)
              have r0 := cell_of hK.out.rc 0
              have r1 := cell_of hK.out.rc 1
              go_wp2_with (go_at_call 19; refine (taken_at hK.out.fb).mono ?_; rintro e w' ⟨rfl, rfl⟩)
              refine ⟨?_, by first | assumption | (simpa using below_chain hw1 hb hw1.size)⟩
              exact rfl
            · kernel_rfl
          refine SeqI.nil ?_
          intro _ w1 _ hw1
          dsimp only [List.drop]
          go_wp2_with fail
          go_roundg (200 - (k + 1))
          case measure => omega
          case rel => exact ⟨k + 1, la2, lb, ta2, tb, _, rfl, by omega, by omega, by go_num, rfl, HA2.out, HH.out.keep hw1⟩
        · have hq1 : (d.ref.1.1 == r.1.1) = false := by simpa using h1
          clear h1 hq
          go_wp2_with fail
          clear x0 x1 x2 x3 r0 r1
          refine (taken_at HH.out.fa).mono ?_
          rintro e v4 ⟨rfl, rfl⟩
          have H := HH.out
          have hw1 : -4000000000 ≤ T + ta2 := by omega
          have hw2 : T + ta2 ≤ 4000000000 := by omega
          have r0 := cell_of H.rc 0
          have r1 := cell_of H.rc 1
          go_wp2_with fail
          clear r0 r1 hq1 HN HH
          have hbeg := beg_same HA2.out.same
          have hlk := HA2.out.same
          refine (begin_at H.fa r).mono ?_
          rintro e v5 ⟨rfl, hB⟩
          have H := H.keep hB
          clear hB
          have r0 := cell_of H.rc 0
          have r1 := cell_of H.rc 1
          go_wp2_with fail
          clear r0 r1
          rw [beg_word]
          refine (begin_at H.fb r).mono ?_
          rintro e v6 ⟨rfl, hB⟩
          rw [beg_word]
          have H := H.keep hB
          clear hB
          generalize (lkp lb r).getD w0 = z
          generalize (beg lb r).2 = s1
          have HC1 := hid (fun (w1 : World) (h : LocksAt w1 b m la2 ta2) => check_at h r z)
          have HC2 := hid (fun (w1 : World) (h : LocksAt w1 b2 m2 lb tb) => check_at h r z)
          rw [hlk] at HC1
          generalize decide (lkp lb r = some z) = vv at HC1 HC2
          have hdf := HA2.out.diff
          have hb0 := HA2.out.b0
          have HH := hid H
          have hrl := lt_of_block H.rc
          clear H hbeg hlk
          go_wp2_with fail
          refine wp_region_seq 28 (fun w1 => Below (v6).heap.size (v6) w1) (by kernel_rfl) (by kernel_rfl) (by kernel_rfl) ⟨rfl, rfl, rfl, Nat.le_refl _, fun _ _ => rfl⟩ ?_
          dsimp only [List.take]
          iterate 13
            refine Seq.cons (a' := ?_) ?_ ?_ ?_
            rotate_left
            ·
              intro w1 hw1
              have hK := hid (HH.out.keep hw1)
              have r0 := cell_of hK.out.rc 0
              have r1 := cell_of hK.out.rc 1
              go_wp2_with (go_at_call 18; refine (HC1.out _ hK.out.fa).mono ?_; rintro e w' ⟨rfl, hb⟩)
              refine ⟨?_, by first | assumption | (simpa using below_chain hw1 hb hw1.size)⟩
              exact rfl
            · kernel_rfl
          iterate 4
            refine Seq.cons (a' := ?_) ?_ ?_ ?_
            rotate_left
            ·
              intro w1 hw1
              have hK := hid (HH.out.keep hw1)
              have r0 := cell_of hK.out.rc 0
              have r1 := cell_of hK.out.rc 1
              go_wp2_with (go_at_call 18; refine (HC2.out _ hK.out.fb).mono ?_; rintro e w' ⟨rfl, hb⟩)
              refine ⟨?_, by first | assumption | (simpa using below_chain hw1 hb hw1.size)⟩
              exact rfl
            · kernel_rfl
          iterate 5
            refine Seq.cons (a' := ?_) ?_ ?_ ?_
            rotate_left
            ·
              intro w1 hw1
              have hK := hid (HH.out.keep hw1)
              have r0 := cell_of hK.out.rc 0
              have r1 := cell_of hK.out.rc 1
              go_wp2_with (go_at_call 19; refine (taken_at hK.out.fa).mono ?_; rintro e w' ⟨rfl, rfl⟩)
              refine ⟨?_, by first | assumption | (simpa using below_chain hw1 hb hw1.size)⟩
              exact rfl
            · kernel_rfl
          iterate 6
            refine Seq.cons (a' := ?_) ?_ ?_ ?_
            rotate_left
            ·
              intro w1 hw1
              have hK := hid (HH.out.keep hw1)
              have r0 := cell_of hK.out.rc 0
              have r1 := cell_of hK.out.rc 1
              go_wp2_with (go_at_call 19; refine (taken_at hK.out.fb).mono ?_; rintro e w' ⟨rfl, rfl⟩)
              refine ⟨?_, by first | assumption | (simpa using below_chain hw1 hb hw1.size)⟩
              exact rfl
            · kernel_rfl
          refine SeqI.nil ?_
          intro _ w1 _ hw1
          dsimp only [List.drop]
          go_wp2_with fail
          go_roundg (200 - (k + 1))
          case measure => omega
          case rel => exact ⟨k + 1, la2, lb, ta2, tb, _, rfl, by omega, by omega, by go_num, rfl, HA2.out, HH.out.keep hw1⟩
    · obtain rfl : k = len := by omega
      have hcond : decide ((k : Int) < k) = false := by simp
      clear H hA
      go_wp2_with fail
      go_ret
      exact ⟨rfl, mod_end HH.out.mod⟩

/-- A Ref by value. -/
theorem ref_of {H : Type} {enc : TypeId × Value → H} {w : World} {base : Nat} {spare : Nat → Bool} {held : Bool} {r : Reach} {b0 : Nat} {v : Value} {d : DataW H} {p : List MemPlace} (hv : Value.okWide Try.prog w r b0 30 v)
    (h : DataW.Trod enc Try.prog w base spare held 30 v d p) : ∃ r : RefK, v = .agg #[.int .i64 r.1.1, .int .u32 r.1.2] := by
  obtain ⟨c0, c1, y0, y1, n, rfl, _, _, h0, h1⟩ := Joins.open_agg2 Try.underlying30 (by kernel_rfl) (by kernel_rfl) hv h
  obtain ⟨k, e0, _, wk⟩ := DataW.trod_int Try.underlying3 h0
  obtain ⟨b, e1, _, wb⟩ := DataW.trod_int Try.underlying28 h1
  simp at e0 e1
  subst e0 e1
  exact ⟨⟨(k, b), wk, wb⟩, rfl⟩
end Go.Proofs.Ytofkodfdgbjboaa
