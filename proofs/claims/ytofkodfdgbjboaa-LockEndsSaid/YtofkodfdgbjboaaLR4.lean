/- The reference's locks: Lock, Turn. -/
import Derived.Test.YtofkodfdgbjboaaLR3
import Derived.Test.YtofkodfdgbjboaaTurn4
namespace Go.Proofs.Ytofkodfdgbjboaa
open Go.ChangeShapes Go.WideShapes Go.ChangeAt Go.RowKit Go.Burg
open Go.Burg.Lk
section
variable {w : World} {p : Nat} {rv wv : Value} {l : List (RefK × Wd)} {tk : Int}

theorem turnL_none {r : RefK} (h : lkp l r = none) (g : Wd → Wd × Bool) : turnL l r g = (5, l) := by unfold turnL; rw [h]
theorem turnL_some {r : RefK} {y : Wd} (h : lkp l r = some y) (g : Wd → Wd × Bool) : turnL l r g = if (g y).2 then (0, setKV l r (g y).1) else (15, l) := by unfold turnL; rw [h]

/-- One more call on a word: what stands behind it. -/
theorem rturn_drop (h : RAt w p rv wv l tk) (r : RefK) (hn : l.length ≤ 100000) (hnd : (l.map Prod.fst).Nodup) : Calls Try.prog 41 #[.pointer (some ⟨p, 0, none⟩), .agg #[.int .i64 r.1.1, .int .u32 r.1.2], .int .i64 0] w fun e w' => e = .returned (.int .i64 (turnL l r Wd.drop).1) ∧ RAt w' p rv wv (turnL l r Wd.drop).2 tk ∧ Mod (ROwn p rv wv) w w' := by
  have hnd' := hnd
  obtain ⟨a, cap, rfl, hform⟩ := row_form h.ws
  have HA := hid (h.alloc (.cells #[.int .i64 r.1.1, .int .u32 r.1.2] 30))
  have HN := hid (heap_new w (.cells #[.int .i64 r.1.1, .int .u32 r.1.2] 30))
  have HF := hid hform
  have HB0 : Hid (Below w.heap.size w (w.alloc (.cells #[.int .i64 r.1.1, .int .u32 r.1.2] 30))) := hid ((Below.refl _ _).alloc (Nat.le_refl _) _)
  have HAT := hid (at_any (h.alloc (.cells #[.int .i64 r.1.1, .int .u32 r.1.2] 30)) r hn)
  have n0 := cell_of HN.out 0
  have n1 := cell_of HN.out 1
  cases hx : idx l r with
  | none =>
    obtain ⟨hl, _⟩ := idx_none hx
    rw [hx] at HAT
    rw [turnL_none hl]
    have HH := hid h
    clear hx hl h
    go_enter Try.func41, Try.ntmps41
    go_wp2_with (go_at_call 56; refine HAT.out.mono ?_; rintro e w1 ⟨rfl, hb1⟩)
    go_ret
    have hB := below_chain HB0.out hb1 HB0.out.size
    exact ⟨rfl, HH.out.keep hB, Mod.ofBelow hB⟩
  | some n =>
    obtain ⟨⟨y, hy, hl⟩, _⟩ := idx_some hx
    have hset := fun v => set_at v hnd hx
    have hlt := (List.getElem?_eq_some_iff.1 hy).1
    obtain ⟨g, rfl, hg, hc1, hc2⟩ := HF.out (by omega)
    unfold maxLen at hc2
    rw [hx] at HAT
    rw [turnL_some hl]
    have HD := hid (fun w => pdrop_any y w)
    have HO := hid (fun w => pdone_any y w)
    have HX := hid (fun w => pkill_any y w)
    have HSET := hid hset
    have HHND := hid hnd
    have HH := hid h
    generalize hq : Wd.drop y = q
    rw [show Wd.drop y = q from hq] at HD
    clear hx hl hset hnd h hq
    obtain ⟨v, ok⟩ := q
    unfold wV at HD HO HX
    have hnn : decide ((n : Int) < 0) = false := by simp
    cases ok
    · simp only [Bool.false_eq_true, if_false]
      go_enter Try.func41, Try.ntmps41
      go_wp2_with (go_at_call 56; refine HAT.out.mono ?_; rintro e w1 ⟨rfl, hb1⟩; have hK := HA.out.keep hb1; have hB := below_chain HB0.out hb1 HB0.out.size; clear hb1; obtain ⟨c0, c1, c2, cf, cl⟩ := rfacts hK; have z0 := words_cell hK.ws hy; have zf := fun j => World.ownsRow.frozenAt hK.ws j)
      refine (HD.out _).mono ?_
      rintro e w2 ⟨rfl, hb2⟩
      replace hK := hK.keep hb2
      replace hB := below_chain hB hb2 hB.size
      clear hb2 c0 c1 c2 cf cl z0 zf
      obtain ⟨c0, c1, c2, cf, cl⟩ := rfacts hK; have z0 := words_cell hK.ws hy; have zf := fun j => World.ownsRow.frozenAt hK.ws j
      go_wp2_with fail
      go_ret
      exact ⟨rfl, hK, Mod.ofBelow hB⟩
    · simp only [if_true]
      go_enter Try.func41, Try.ntmps41
      go_wp2_with (go_at_call 56; refine HAT.out.mono ?_; rintro e w1 ⟨rfl, hb1⟩; have hK := HA.out.keep hb1; have hB := below_chain HB0.out hb1 HB0.out.size; clear hb1; obtain ⟨c0, c1, c2, cf, cl⟩ := rfacts hK; have z0 := words_cell hK.ws hy; have zf := fun j => World.ownsRow.frozenAt hK.ws j)
      refine (HD.out _).mono ?_
      rintro e w2 ⟨rfl, hb2⟩
      replace hK := hK.keep hb2
      replace hB := below_chain hB hb2 hB.size
      clear hb2 c0 c1 c2 cf cl z0 zf
      obtain ⟨c0, c1, c2, cf, cl⟩ := rfacts hK; have z0 := words_cell hK.ws hy; have zf := fun j => World.ownsRow.frozenAt hK.ws j
      go_wp2_with fail
      go_ret
      obtain ⟨hS, hM⟩ := hK.store v hy
      rw [HSET.out]
      exact ⟨rfl, hS, (Mod.ofBelow (S := ROwn p rv (.slice (some ⟨g, 0, none⟩) l.length cap)) hB).trans hM (fun _ _ h => h)⟩
theorem rturn_done (h : RAt w p rv wv l tk) (r : RefK) (hn : l.length ≤ 100000) (hnd : (l.map Prod.fst).Nodup) : Calls Try.prog 41 #[.pointer (some ⟨p, 0, none⟩), .agg #[.int .i64 r.1.1, .int .u32 r.1.2], .int .i64 1] w fun e w' => e = .returned (.int .i64 (turnL l r Wd.done).1) ∧ RAt w' p rv wv (turnL l r Wd.done).2 tk ∧ Mod (ROwn p rv wv) w w' := by
  have hnd' := hnd
  obtain ⟨a, cap, rfl, hform⟩ := row_form h.ws
  have HA := hid (h.alloc (.cells #[.int .i64 r.1.1, .int .u32 r.1.2] 30))
  have HN := hid (heap_new w (.cells #[.int .i64 r.1.1, .int .u32 r.1.2] 30))
  have HF := hid hform
  have HB0 : Hid (Below w.heap.size w (w.alloc (.cells #[.int .i64 r.1.1, .int .u32 r.1.2] 30))) := hid ((Below.refl _ _).alloc (Nat.le_refl _) _)
  have HAT := hid (at_any (h.alloc (.cells #[.int .i64 r.1.1, .int .u32 r.1.2] 30)) r hn)
  have n0 := cell_of HN.out 0
  have n1 := cell_of HN.out 1
  cases hx : idx l r with
  | none =>
    obtain ⟨hl, _⟩ := idx_none hx
    rw [hx] at HAT
    rw [turnL_none hl]
    have HH := hid h
    clear hx hl h
    go_enter Try.func41, Try.ntmps41
    go_wp2_with (go_at_call 56; refine HAT.out.mono ?_; rintro e w1 ⟨rfl, hb1⟩)
    go_ret
    have hB := below_chain HB0.out hb1 HB0.out.size
    exact ⟨rfl, HH.out.keep hB, Mod.ofBelow hB⟩
  | some n =>
    obtain ⟨⟨y, hy, hl⟩, _⟩ := idx_some hx
    have hset := fun v => set_at v hnd hx
    have hlt := (List.getElem?_eq_some_iff.1 hy).1
    obtain ⟨g, rfl, hg, hc1, hc2⟩ := HF.out (by omega)
    unfold maxLen at hc2
    rw [hx] at HAT
    rw [turnL_some hl]
    have HD := hid (fun w => pdrop_any y w)
    have HO := hid (fun w => pdone_any y w)
    have HX := hid (fun w => pkill_any y w)
    have HSET := hid hset
    have HHND := hid hnd
    have HH := hid h
    generalize hq : Wd.done y = q
    rw [show Wd.done y = q from hq] at HO
    clear hx hl hset hnd h hq
    obtain ⟨v, ok⟩ := q
    unfold wV at HD HO HX
    have hnn : decide ((n : Int) < 0) = false := by simp
    cases ok
    · simp only [Bool.false_eq_true, if_false]
      go_enter Try.func41, Try.ntmps41
      go_wp2_with (go_at_call 56; refine HAT.out.mono ?_; rintro e w1 ⟨rfl, hb1⟩; have hK := HA.out.keep hb1; have hB := below_chain HB0.out hb1 HB0.out.size; clear hb1; obtain ⟨c0, c1, c2, cf, cl⟩ := rfacts hK; have z0 := words_cell hK.ws hy; have zf := fun j => World.ownsRow.frozenAt hK.ws j)
      refine (HD.out _).mono ?_
      rintro e w2 ⟨rfl, hb2⟩
      replace hK := hK.keep hb2
      replace hB := below_chain hB hb2 hB.size
      clear hb2 c0 c1 c2 cf cl z0 zf
      obtain ⟨c0, c1, c2, cf, cl⟩ := rfacts hK; have z0 := words_cell hK.ws hy; have zf := fun j => World.ownsRow.frozenAt hK.ws j
      go_wp2_with fail
      refine (HO.out _).mono ?_
      rintro e w2 ⟨rfl, hb2⟩
      replace hK := hK.keep hb2
      replace hB := below_chain hB hb2 hB.size
      clear hb2 c0 c1 c2 cf cl z0 zf
      obtain ⟨c0, c1, c2, cf, cl⟩ := rfacts hK; have z0 := words_cell hK.ws hy; have zf := fun j => World.ownsRow.frozenAt hK.ws j
      go_wp2_with fail
      go_ret
      exact ⟨rfl, hK, Mod.ofBelow hB⟩
    · simp only [if_true]
      go_enter Try.func41, Try.ntmps41
      go_wp2_with (go_at_call 56; refine HAT.out.mono ?_; rintro e w1 ⟨rfl, hb1⟩; have hK := HA.out.keep hb1; have hB := below_chain HB0.out hb1 HB0.out.size; clear hb1; obtain ⟨c0, c1, c2, cf, cl⟩ := rfacts hK; have z0 := words_cell hK.ws hy; have zf := fun j => World.ownsRow.frozenAt hK.ws j)
      refine (HD.out _).mono ?_
      rintro e w2 ⟨rfl, hb2⟩
      replace hK := hK.keep hb2
      replace hB := below_chain hB hb2 hB.size
      clear hb2 c0 c1 c2 cf cl z0 zf
      obtain ⟨c0, c1, c2, cf, cl⟩ := rfacts hK; have z0 := words_cell hK.ws hy; have zf := fun j => World.ownsRow.frozenAt hK.ws j
      go_wp2_with fail
      refine (HO.out _).mono ?_
      rintro e w2 ⟨rfl, hb2⟩
      replace hK := hK.keep hb2
      replace hB := below_chain hB hb2 hB.size
      clear hb2 c0 c1 c2 cf cl z0 zf
      obtain ⟨c0, c1, c2, cf, cl⟩ := rfacts hK; have z0 := words_cell hK.ws hy; have zf := fun j => World.ownsRow.frozenAt hK.ws j
      go_wp2_with fail
      go_ret
      obtain ⟨hS, hM⟩ := hK.store v hy
      rw [HSET.out]
      exact ⟨rfl, hS, (Mod.ofBelow (S := ROwn p rv (.slice (some ⟨g, 0, none⟩) l.length cap)) hB).trans hM (fun _ _ h => h)⟩
theorem rturn_kill (h : RAt w p rv wv l tk) (r : RefK) (hn : l.length ≤ 100000) (hnd : (l.map Prod.fst).Nodup) : Calls Try.prog 41 #[.pointer (some ⟨p, 0, none⟩), .agg #[.int .i64 r.1.1, .int .u32 r.1.2], .int .i64 2] w fun e w' => e = .returned (.int .i64 (turnL l r Wd.kill).1) ∧ RAt w' p rv wv (turnL l r Wd.kill).2 tk ∧ Mod (ROwn p rv wv) w w' := by
  have hnd' := hnd
  obtain ⟨a, cap, rfl, hform⟩ := row_form h.ws
  have HA := hid (h.alloc (.cells #[.int .i64 r.1.1, .int .u32 r.1.2] 30))
  have HN := hid (heap_new w (.cells #[.int .i64 r.1.1, .int .u32 r.1.2] 30))
  have HF := hid hform
  have HB0 : Hid (Below w.heap.size w (w.alloc (.cells #[.int .i64 r.1.1, .int .u32 r.1.2] 30))) := hid ((Below.refl _ _).alloc (Nat.le_refl _) _)
  have HAT := hid (at_any (h.alloc (.cells #[.int .i64 r.1.1, .int .u32 r.1.2] 30)) r hn)
  have n0 := cell_of HN.out 0
  have n1 := cell_of HN.out 1
  cases hx : idx l r with
  | none =>
    obtain ⟨hl, _⟩ := idx_none hx
    rw [hx] at HAT
    rw [turnL_none hl]
    have HH := hid h
    clear hx hl h
    go_enter Try.func41, Try.ntmps41
    go_wp2_with (go_at_call 56; refine HAT.out.mono ?_; rintro e w1 ⟨rfl, hb1⟩)
    go_ret
    have hB := below_chain HB0.out hb1 HB0.out.size
    exact ⟨rfl, HH.out.keep hB, Mod.ofBelow hB⟩
  | some n =>
    obtain ⟨⟨y, hy, hl⟩, _⟩ := idx_some hx
    have hset := fun v => set_at v hnd hx
    have hlt := (List.getElem?_eq_some_iff.1 hy).1
    obtain ⟨g, rfl, hg, hc1, hc2⟩ := HF.out (by omega)
    unfold maxLen at hc2
    rw [hx] at HAT
    rw [turnL_some hl]
    have HD := hid (fun w => pdrop_any y w)
    have HO := hid (fun w => pdone_any y w)
    have HX := hid (fun w => pkill_any y w)
    have HSET := hid hset
    have HHND := hid hnd
    have HH := hid h
    generalize hq : Wd.kill y = q
    rw [show Wd.kill y = q from hq] at HX
    clear hx hl hset hnd h hq
    obtain ⟨v, ok⟩ := q
    unfold wV at HD HO HX
    have hnn : decide ((n : Int) < 0) = false := by simp
    cases ok
    · simp only [Bool.false_eq_true, if_false]
      go_enter Try.func41, Try.ntmps41
      go_wp2_with (go_at_call 56; refine HAT.out.mono ?_; rintro e w1 ⟨rfl, hb1⟩; have hK := HA.out.keep hb1; have hB := below_chain HB0.out hb1 HB0.out.size; clear hb1; obtain ⟨c0, c1, c2, cf, cl⟩ := rfacts hK; have z0 := words_cell hK.ws hy; have zf := fun j => World.ownsRow.frozenAt hK.ws j)
      refine (HD.out _).mono ?_
      rintro e w2 ⟨rfl, hb2⟩
      replace hK := hK.keep hb2
      replace hB := below_chain hB hb2 hB.size
      clear hb2 c0 c1 c2 cf cl z0 zf
      obtain ⟨c0, c1, c2, cf, cl⟩ := rfacts hK; have z0 := words_cell hK.ws hy; have zf := fun j => World.ownsRow.frozenAt hK.ws j
      go_wp2_with fail
      refine (HX.out _).mono ?_
      rintro e w2 ⟨rfl, hb2⟩
      replace hK := hK.keep hb2
      replace hB := below_chain hB hb2 hB.size
      clear hb2 c0 c1 c2 cf cl z0 zf
      obtain ⟨c0, c1, c2, cf, cl⟩ := rfacts hK; have z0 := words_cell hK.ws hy; have zf := fun j => World.ownsRow.frozenAt hK.ws j
      go_wp2_with fail
      go_ret
      exact ⟨rfl, hK, Mod.ofBelow hB⟩
    · simp only [if_true]
      go_enter Try.func41, Try.ntmps41
      go_wp2_with (go_at_call 56; refine HAT.out.mono ?_; rintro e w1 ⟨rfl, hb1⟩; have hK := HA.out.keep hb1; have hB := below_chain HB0.out hb1 HB0.out.size; clear hb1; obtain ⟨c0, c1, c2, cf, cl⟩ := rfacts hK; have z0 := words_cell hK.ws hy; have zf := fun j => World.ownsRow.frozenAt hK.ws j)
      refine (HD.out _).mono ?_
      rintro e w2 ⟨rfl, hb2⟩
      replace hK := hK.keep hb2
      replace hB := below_chain hB hb2 hB.size
      clear hb2 c0 c1 c2 cf cl z0 zf
      obtain ⟨c0, c1, c2, cf, cl⟩ := rfacts hK; have z0 := words_cell hK.ws hy; have zf := fun j => World.ownsRow.frozenAt hK.ws j
      go_wp2_with fail
      refine (HX.out _).mono ?_
      rintro e w2 ⟨rfl, hb2⟩
      replace hK := hK.keep hb2
      replace hB := below_chain hB hb2 hB.size
      clear hb2 c0 c1 c2 cf cl z0 zf
      obtain ⟨c0, c1, c2, cf, cl⟩ := rfacts hK; have z0 := words_cell hK.ws hy; have zf := fun j => World.ownsRow.frozenAt hK.ws j
      go_wp2_with fail
      go_ret
      obtain ⟨hS, hM⟩ := hK.store v hy
      rw [HSET.out]
      exact ⟨rfl, hS, (Mod.ofBelow (S := ROwn p rv (.slice (some ⟨g, 0, none⟩) l.length cap)) hB).trans hM (fun _ _ h => h)⟩

theorem RAt.count (h : RAt w p rv wv l tk) (t : Int) : RAt (w.setCell ⟨p, 2, none⟩ (.int .i64 t)) p rv wv l t ∧ Mod (ROwn p rv wv) w (w.setCell ⟨p, 2, none⟩ (.int .i64 t)) :=
  ⟨⟨(heap_set h.hd).trans (by simp), own_same h.rs fun k hk => Below.heap_setCell _ _ _ _ (own_ty h.rs h.hd (by decide) k hk), own_same h.ws fun k hk => Below.heap_setCell _ _ _ _ (own_ty h.ws h.hd (by decide) k hk)⟩,
    Mod.setCell (Mod.refl _ _) (.inl (.inl rfl)) _⟩

theorem lockL_eq (l : List (RefK × Wd)) (r : RefK) (x : Wd) : lockL l r x = if lkp l r = some x ∧ x.free = true then (true, setKV l r (Wd.of (x.1 + 1))) else (false, l) := by
  unfold lockL
  cases h : lkp l r with
  | none => rw [turnL_none h]; simp
  | some y =>
    rw [turnL_some h]
    unfold Wd.only
    by_cases he : y = x
    · subst he
      simp only [if_true, true_and]
      cases hf : y.free
      · have : y.lock = (y, false) := by rw [Wd.lock, hf]; rfl
        rw [this]; simp
      · have : y.lock = (Wd.of (y.1 + 1), true) := by rw [Wd.lock, hf]; rfl
        rw [this]; simp
    · simp [he]

set_option maxHeartbeats 1000000 in
theorem rlock_any (h : RAt w p rv wv l tk) (r : RefK) (x : Wd) (hn : l.length ≤ 100000) (hnd : (l.map Prod.fst).Nodup) (hq : tk < 4000000000) (hq0 : 0 ≤ tk) : Calls Try.prog 39 #[.pointer (some ⟨p, 0, none⟩), .agg #[.int .i64 r.1.1, .int .u32 r.1.2], .int .u64 x.1] w fun e w' => e = .returned (.bool (lockL l r x).1) ∧ RAt w' p rv wv (lockL l r x).2 (if (lockL l r x).1 then tk + 1 else tk) ∧ Mod (ROwn p rv wv) w w' := by
  have HA := hid (h.alloc (.cells #[.int .i64 r.1.1, .int .u32 r.1.2] 30))
  have HN := hid (heap_new w (.cells #[.int .i64 r.1.1, .int .u32 r.1.2] 30))
  have HB0 : Hid (Below w.heap.size w (w.alloc (.cells #[.int .i64 r.1.1, .int .u32 r.1.2] 30))) := hid ((Below.refl _ _).alloc (Nat.le_refl _) _)
  have HL := hid (fun w => plock_any x w)
  have HC := hid (fun (w1 : World) (h : RAt w1 p rv wv l tk) => rcheck_any h r x hn)
  have hplt := h.lt
  rw [lockL_eq]
  by_cases hl : lkp l r = some x
  · cases hf : x.free
    · have e0 : x.lock = (x, false) := by rw [Wd.lock, hf]; rfl
      have e1 : decide (lkp l r = some x) = true := by simpa using hl
      rw [e0] at HL
      rw [e1] at HC
      simp only [Bool.false_eq_true, and_false, if_false]
      clear hl hf e0 e1 h
      go_enter Try.func39, Try.ntmps39
      go_wp2_with fail
      refine (HL.out _).mono ?_
      rintro e w1 ⟨rfl, hb1⟩
      have hK := HA.out.keep hb1
      have hN1 := blk_below HN.out hb1 (by simp)
      have hB := below_chain HB0.out hb1 HB0.out.size
      have n0 := cell_of hN1 0
      have n1 := cell_of hN1 1
      clear hb1
      go_wp2_with fail
      refine (HC.out _ hK).mono ?_
      rintro e w2 ⟨rfl, hb2⟩
      go_wp2_with fail
      go_ret
      have hB2 := below_chain hB hb2 hB.size
      exact ⟨rfl, hK.keep hb2, Mod.ofBelow hB2⟩
    · have e0 : x.lock = (Wd.of (x.1 + 1), true) := by rw [Wd.lock, hf]; rfl
      have e1 : decide (lkp l r = some x) = true := by simpa using hl
      obtain ⟨n, hx⟩ : ∃ n, idx l r = some n := by
        cases hx : idx l r with
        | none => rw [(idx_none hx).1] at hl; cases hl
        | some n => exact ⟨n, rfl⟩
      obtain ⟨⟨y, hy, hl2⟩, _⟩ := idx_some hx
      have hset := set_at (Wd.of (x.1 + 1)) hnd hx
      have hlt := (List.getElem?_eq_some_iff.1 hy).1
      have HAT := hid (fun (w1 : World) (h : RAt w1 p rv wv l tk) => at_any h r hn)
      obtain ⟨a, cap, rfl, hform⟩ := row_form h.ws
      obtain ⟨g, rfl, hg, hc1, hc2⟩ := hform (by omega)
      unfold maxLen at hc2
      rw [hx] at HAT
      rw [e0] at HL
      rw [e1] at HC
      unfold wV at HL
      simp only [hl, and_self, if_true]
      rw [hset]
      have HY := hid hy
      clear hl hf e0 e1 h hl2 hx hset hy hform hnd
      generalize Wd.of (x.1 + 1) = v at *
      go_enter Try.func39, Try.ntmps39
      go_wp2_with fail
      refine (HL.out _).mono ?_
      rintro e w1 ⟨rfl, hb1⟩
      have hK := HA.out.keep hb1
      have hN1 := blk_below HN.out hb1 (by simp)
      have hB := below_chain HB0.out hb1 HB0.out.size
      have n0 := cell_of hN1 0
      have n1 := cell_of hN1 1
      clear hb1
      go_wp2_with fail
      refine (HC.out _ hK).mono ?_
      rintro e w2 ⟨rfl, hb2⟩
      have HB2 := hid (below_chain hB hb2 hB.size)
      have HK := hid (hK.keep hb2)
      have HN2 := hid (blk_below hN1 hb2 (lt_of_block hN1))
      have hz2 := lt_of_block HN2.out
      clear hB hb2 hK hN1 n0 n1 HA HN HB0 HC HL
      go_wp2_with fail
      refine wp_region_seq 9 (fun w1 => Below (w2).heap.size (w2) w1) (by kernel_rfl) (by kernel_rfl) (by kernel_rfl) ⟨rfl, rfl, rfl, Nat.le_refl _, fun _ _ => rfl⟩ ?_
      dsimp only [List.take]
      iterate 9
        refine Seq.cons (a' := ?_) ?_ ?_ ?_
        rotate_left
        ·
          intro w1 hw1
          have hP := hid (HK.out.keep hw1)
          have k0 := blk_below HN2.out hw1 hz2
          have n0 := cell_of k0 0
          have n1 := cell_of k0 1
          obtain ⟨c0, c1, c2, cf, cl⟩ := rfacts hP.out
          clear k0
          go_wp2_with (go_at_call 56; refine (HAT.out _ hP.out).mono ?_; rintro e w' ⟨rfl, hb⟩)
          refine ⟨?_, by first | assumption | (simpa using below_chain hw1 hb hw1.size)⟩
          exact rfl
        · kernel_rfl
      refine SeqI.nil ?_
      intro _ w1 _ hw1
      dsimp only [List.drop]
      have hK3 := HK.out.keep hw1
      have HB3 := hid (below_chain HB2.out hw1 HB2.out.size)
      clear hw1 HB2 HK HN2
      obtain ⟨c0, c1, c2, cf, cl⟩ := rfacts hK3
      have z0 := words_cell hK3.ws HY.out
      have zf := fun j => World.ownsRow.frozenAt hK3.ws j
      have hgp : g ≠ p := own_ty hK3.ws hK3.hd (by decide) g rfl
      obtain ⟨hS, hM⟩ := hK3.store v HY.out
      obtain ⟨hS2, hM2⟩ := hS.count (tk + 1)
      have HS2 := hid hS2
      have HM := hid (hM.trans hM2 (fun _ _ h => h))
      clear hS hM hS2 hM2 hK3
      go_wp2_with fail
      go_ret
      exact ⟨rfl, HS2.out, (Mod.ofBelow (S := ROwn p rv (.slice (some ⟨g, 0, none⟩) l.length cap)) HB3.out).trans HM.out (fun _ _ h => h)⟩
  · have e1 : decide (lkp l r = some x) = false := by simpa using hl
    rw [e1] at HC
    simp only [hl, false_and, if_false]
    generalize x.lock = q at HL
    clear hl e1 h
    go_enter Try.func39, Try.ntmps39
    go_wp2_with fail
    refine (HL.out _).mono ?_
    rintro e w1 ⟨rfl, hb1⟩
    have hK := HA.out.keep hb1
    have hN1 := blk_below HN.out hb1 (by simp)
    have hB := below_chain HB0.out hb1 HB0.out.size
    have n0 := cell_of hN1 0
    have n1 := cell_of hN1 1
    clear hb1
    go_wp2_with fail
    refine (HC.out _ hK).mono ?_
    rintro e w2 ⟨rfl, hb2⟩
    go_wp2_with fail
    go_ret
    have hB2 := below_chain hB hb2 hB.size
    exact ⟨by simp, by simpa using hK.keep hb2, Mod.ofBelow hB2⟩
end
end Go.Proofs.Ytofkodfdgbjboaa
