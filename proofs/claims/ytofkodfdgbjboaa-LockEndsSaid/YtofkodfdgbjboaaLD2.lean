/- The law's does, deed by deed. -/
import Derived.Test.YtofkodfdgbjboaaLD1
namespace Go.Proofs.Ytofkodfdgbjboaa
open Go.ChangeShapes Go.WideShapes Go.ChangeAt Go.RowKit Go.Burg
open Go.Burg.Lk

theorem setKV_len (l : List (RefK × Wd)) (r : RefK) (v : Wd) : (setKV l r v).length ≤ l.length + 1 := by
  unfold setKV
  split <;> simp
theorem turnL_len (l : List (RefK × Wd)) (r : RefK) (g : Wd → Wd × Bool) : (turnL l r g).2.length ≤ l.length + 1 := by
  unfold turnL
  split
  · simp
  · split
    · exact setKV_len _ _ _
    · simp
theorem addL_len (l : List (RefK × Wd)) (r : RefK) : (addL l r).2.length ≤ l.length + 1 := by
  unfold addL
  split
  · split <;> simp
  · simp
theorem goneL_len (l : List (RefK × Wd)) (r : RefK) : (goneL l r).2.length ≤ l.length + 1 := by
  unfold goneL
  split
  · exact Nat.le_trans (List.length_filter_le _ _) (by omega)
  · simp
theorem lockL_len (l : List (RefK × Wd)) (r : RefK) (x : Wd) : (lockL l r x).2.length ≤ l.length + 1 := turnL_len _ _ _

/-- The two on the way through one statement: have the locks, has the reference been asked? -/
def BothS (w : World) (b m p n : Nat) (d : LDeed) (rv0 wv0 : Value) (l l1 : List (RefK × Wd)) (t t1 : Int) (b1 b2 : Bool) (w1 : World) : Prop :=
  ∃ rv wv, Both w b m p n d rv0 wv0 rv wv (cond b1 l1 l) (cond b1 t1 t) (cond b2 l1 l) (cond b2 t1 t) w1

/-- What a deed leaves. -/
structure Left (w : World) (b m p : Nat) (rv wv : Value) (l : List (RefK × Wd)) (t : Int) (e : Ending) (w' : World) : Prop where
  ex : ∃ b' m' rv' wv' l' t', e = .returned (.tuple #[.pointer (some ⟨b', 0, none⟩), .bool true]) ∧ LocksAt w' b' m' l' t' ∧ RAt w' p rv' wv' l' t' ∧ Mod (DOwn b m p rv wv) w w' ∧ ((b' = b ∧ m' = m) ∨ (w.heap.size ≤ b' ∧ w.heap.size ≤ m')) ∧
    (∀ g, rv'.ownBlock = some g → rv.ownBlock = some g ∨ w.heap.size ≤ g) ∧ (∀ g, wv'.ownBlock = some g → wv.ownBlock = some g ∨ w.heap.size ≤ g) ∧ l'.length ≤ l.length + 1 ∧ 0 ≤ t' ∧ t' ≤ t + 1

section
variable {w : World} {b m p : Nat} {rv wv : Value} {l : List (RefK × Wd)} {t : Int}

set_option maxHeartbeats 1000000 in
theorem does_0 (h : LocksAt w b m l t) (hr : RAt w p rv wv l t) (d : LDeed) (hn : l.length ≤ 1000) (h0 : 0 ≤ t) (h1 : t ≤ 1000) (hp : d.what % 8 = 0) : Calls Try.prog 21 #[.pointer (some ⟨b, 0, none⟩), .pointer (some ⟨p, 0, none⟩), .agg #[.int .i64 d.what, .int .i64 d.ref.1.1, .int .u32 d.ref.1.2, .int .u64 d.w.1]] w fun e w' => Left w b m p rv wv l t e w' := by
  have hnd := h.2.nodup
  have hB : Both w b m p w.heap.size d rv wv rv wv l t l t (w.alloc (.cells #[.int .i64 d.what, .int .i64 d.ref.1.1, .int .u32 d.ref.1.2, .int .u64 d.w.1] 38)) := ⟨h.alloc _, hr.alloc _, heap_new _ _, (Mod.refl _ w).alloc _, fun g hg => .inl hg, fun g hg => .inl hg⟩
  have HB := hid hB
  have HP := hid hp
  have HA := hid (fun (w1 : World) (h : LocksAt w1 b m l t) => add_at' h d.ref)
  have HR := hid (fun (w1 : World) rv wv (h : RAt w1 p rv wv l t) => radd_any h d.ref (by omega))
  have HLEN := hid (addL_len l d.ref)
  have HT := hid (show 0 ≤ t ∧ t ≤ t + 1 by omega)
  clear hB h hr hp hnd h0 h1
  generalize addL l d.ref = q at *
  obtain ⟨er, l1⟩ := q
  simp only [] at HA HR HLEN
  have hx := HB.out.cell
  have x0 := cell_of hx 0
  have x1 := cell_of hx 1
  have x2 := cell_of hx 2
  have x3 := cell_of hx 3
  clear hx
  go_enter Try.func21, Try.ntmps21
  go_wp2_with (go_at_call 12; refine (pick_any d.what 8 0 _ (by decide) (by decide) HP.out).mono ?_; rintro e wp ⟨rfl, rfl⟩)
  clear x0 x1 x2 x3
  refine wp_region_seqC 12 (Turn2 4 8 (BothS w b m p w.heap.size d rv wv l l1 t (t))) (by kernel_rfl) (by kernel_rfl) (by kernel_rfl) (Turn2.start ⟨rv, wv, HB.out.keep ⟨rfl, rfl, rfl, Nat.le_refl _, fun _ _ => rfl⟩⟩) ?_
  dsimp only [List.take]
  iterate 4
    refine SeqC.calm (a' := ?_) (by decide) (by decide) ?_ ?_ ?_
    rotate_left
    ·
      intro b1 b2 w1 ec1 ec2 ed1 ed2 hw1
      have HW1 := hid hw1
      obtain ⟨rv1, wv1, hb⟩ := hw1
      have x0 := cell_of hb.cell 0
      have x1 := cell_of hb.cell 1
      have x2 := cell_of hb.cell 2
      have x3 := cell_of hb.cell 3
      clear hb ec1 ec2 ed1 ed2
      go_wp2_with fail
      refine ⟨?_, HW1.out⟩
      exact rfl
    · kernel_rfl
  refine SeqC.fst (a' := ?_) (by decide) ?_ ?_ ?_
  rotate_left
  ·
    intro b2 w1 ed1 ed2 hw1
    obtain rfl := ed1 (by kernel_rfl)
    obtain ⟨rv1, wv1, hb⟩ := hw1
    have hb : Both w b m p w.heap.size d rv wv rv1 wv1 l t l t w1 := hb
    have x0 := cell_of hb.cell 0
    have x1 := cell_of hb.cell 1
    have x2 := cell_of hb.cell 2
    have x3 := cell_of hb.cell 3
    have HW1 := hid hb
    clear hb ed1 ed2
    go_wp2_with (go_at_call 10; refine (HA.out _ HW1.out.lk).mono ?_; rintro e w2 ⟨rfl, hL, hX⟩)
    refine ⟨?_, rv1, wv1, HW1.out.a hL hX⟩
    exact rfl
  · kernel_rfl
  iterate 3
    refine SeqC.calm (a' := ?_) (by decide) (by decide) ?_ ?_ ?_
    rotate_left
    ·
      intro b1 b2 w1 ec1 ec2 ed1 ed2 hw1
      have HW1 := hid hw1
      obtain ⟨rv1, wv1, hb⟩ := hw1
      have x0 := cell_of hb.cell 0
      have x1 := cell_of hb.cell 1
      have x2 := cell_of hb.cell 2
      have x3 := cell_of hb.cell 3
      clear hb ec1 ec2 ed1 ed2
      go_wp2_with fail
      refine ⟨?_, HW1.out⟩
      exact rfl
    · kernel_rfl
  refine SeqC.snd (a' := ?_) (by decide) ?_ ?_ ?_
  rotate_left
  ·
    intro b1 w1 ec1 ec2 hw1
    obtain rfl := ec2 (by kernel_rfl)
    obtain ⟨rv1, wv1, hb⟩ := hw1
    have hb : Both w b m p w.heap.size d rv wv rv1 wv1 l1 (t) l t w1 := hb
    have x0 := cell_of hb.cell 0
    have x1 := cell_of hb.cell 1
    have x2 := cell_of hb.cell 2
    have x3 := cell_of hb.cell 3
    have HW1 := hid hb
    clear hb ec1 ec2
    go_wp2_with (go_at_call 37; refine (HR.out _ _ _ HW1.out.rf).mono ?_; rintro e w2 ⟨rv2, wv2, rfl, hR, hX, n1, n2⟩)
    refine ⟨?_, rv2, wv2, HW1.out.r hR hX n1 n2⟩
    exact rfl
  · kernel_rfl
  iterate 3
    refine SeqC.calm (a' := ?_) (by decide) (by decide) ?_ ?_ ?_
    rotate_left
    ·
      intro b1 b2 w1 ec1 ec2 ed1 ed2 hw1
      have HW1 := hid hw1
      obtain ⟨rv1, wv1, hb⟩ := hw1
      have x0 := cell_of hb.cell 0
      have x1 := cell_of hb.cell 1
      have x2 := cell_of hb.cell 2
      have x3 := cell_of hb.cell 3
      clear hb ec1 ec2 ed1 ed2
      go_wp2_with fail
      refine ⟨?_, HW1.out⟩
      exact rfl
    · kernel_rfl
  refine SeqC.nil ?_
  intro D w1 hD hI
  replace hI := hI.done (hD 4 (by omega)) (hD 8 (by omega))
  obtain ⟨rv1, wv1, hb⟩ := hI
  have hb : Both w b m p w.heap.size d rv wv rv1 wv1 l1 (t) l1 (t) w1 := hb
  clear hD
  dsimp only [List.drop]
  have HB1 := hid hb
  clear hb
  go_wp2_with fail
  go_ret2
  exact ⟨b, m, rv1, wv1, l1, _, rfl, HB1.out.lk, HB1.out.rf, HB1.out.mod, .inl ⟨rfl, rfl⟩, HB1.out.nr, HB1.out.nw, HLEN.out, HT.out.1, HT.out.2⟩
set_option maxHeartbeats 1000000 in
theorem does_1 (h : LocksAt w b m l t) (hr : RAt w p rv wv l t) (d : LDeed) (hn : l.length ≤ 1000) (h0 : 0 ≤ t) (h1 : t ≤ 1000) (hp : d.what % 8 = 1) : Calls Try.prog 21 #[.pointer (some ⟨b, 0, none⟩), .pointer (some ⟨p, 0, none⟩), .agg #[.int .i64 d.what, .int .i64 d.ref.1.1, .int .u32 d.ref.1.2, .int .u64 d.w.1]] w fun e w' => Left w b m p rv wv l t e w' := by
  have hnd := h.2.nodup
  have hB : Both w b m p w.heap.size d rv wv rv wv l t l t (w.alloc (.cells #[.int .i64 d.what, .int .i64 d.ref.1.1, .int .u32 d.ref.1.2, .int .u64 d.w.1] 38)) := ⟨h.alloc _, hr.alloc _, heap_new _ _, (Mod.refl _ w).alloc _, fun g hg => .inl hg, fun g hg => .inl hg⟩
  have HB := hid hB
  have HP := hid hp
  have HA := hid (fun (w1 : World) (h : LocksAt w1 b m l t) => gone_at' h d.ref)
  have HR := hid (fun (w1 : World) rv wv (h : RAt w1 p rv wv l t) => rgone_any h d.ref (by omega) hnd)
  have HLEN := hid (goneL_len l d.ref)
  have HT := hid (show 0 ≤ t ∧ t ≤ t + 1 by omega)
  clear hB h hr hp hnd h0 h1
  generalize goneL l d.ref = q at *
  obtain ⟨er, l1⟩ := q
  simp only [] at HA HR HLEN
  have hx := HB.out.cell
  have x0 := cell_of hx 0
  have x1 := cell_of hx 1
  have x2 := cell_of hx 2
  have x3 := cell_of hx 3
  clear hx
  go_enter Try.func21, Try.ntmps21
  go_wp2_with (go_at_call 12; refine (pick_any d.what 8 1 _ (by decide) (by decide) HP.out).mono ?_; rintro e wp ⟨rfl, rfl⟩)
  clear x0 x1 x2 x3
  refine wp_region_seqC 12 (Turn2 4 8 (BothS w b m p w.heap.size d rv wv l l1 t (t))) (by kernel_rfl) (by kernel_rfl) (by kernel_rfl) (Turn2.start ⟨rv, wv, HB.out.keep ⟨rfl, rfl, rfl, Nat.le_refl _, fun _ _ => rfl⟩⟩) ?_
  dsimp only [List.take]
  iterate 4
    refine SeqC.calm (a' := ?_) (by decide) (by decide) ?_ ?_ ?_
    rotate_left
    ·
      intro b1 b2 w1 ec1 ec2 ed1 ed2 hw1
      have HW1 := hid hw1
      obtain ⟨rv1, wv1, hb⟩ := hw1
      have x0 := cell_of hb.cell 0
      have x1 := cell_of hb.cell 1
      have x2 := cell_of hb.cell 2
      have x3 := cell_of hb.cell 3
      clear hb ec1 ec2 ed1 ed2
      go_wp2_with fail
      refine ⟨?_, HW1.out⟩
      exact rfl
    · kernel_rfl
  refine SeqC.fst (a' := ?_) (by decide) ?_ ?_ ?_
  rotate_left
  ·
    intro b2 w1 ed1 ed2 hw1
    obtain rfl := ed1 (by kernel_rfl)
    obtain ⟨rv1, wv1, hb⟩ := hw1
    have hb : Both w b m p w.heap.size d rv wv rv1 wv1 l t l t w1 := hb
    have x0 := cell_of hb.cell 0
    have x1 := cell_of hb.cell 1
    have x2 := cell_of hb.cell 2
    have x3 := cell_of hb.cell 3
    have HW1 := hid hb
    clear hb ed1 ed2
    go_wp2_with (go_at_call 23; refine (HA.out _ HW1.out.lk).mono ?_; rintro e w2 ⟨rfl, hL, hX⟩)
    refine ⟨?_, rv1, wv1, HW1.out.a hL hX⟩
    exact rfl
  · kernel_rfl
  iterate 3
    refine SeqC.calm (a' := ?_) (by decide) (by decide) ?_ ?_ ?_
    rotate_left
    ·
      intro b1 b2 w1 ec1 ec2 ed1 ed2 hw1
      have HW1 := hid hw1
      obtain ⟨rv1, wv1, hb⟩ := hw1
      have x0 := cell_of hb.cell 0
      have x1 := cell_of hb.cell 1
      have x2 := cell_of hb.cell 2
      have x3 := cell_of hb.cell 3
      clear hb ec1 ec2 ed1 ed2
      go_wp2_with fail
      refine ⟨?_, HW1.out⟩
      exact rfl
    · kernel_rfl
  refine SeqC.snd (a' := ?_) (by decide) ?_ ?_ ?_
  rotate_left
  ·
    intro b1 w1 ec1 ec2 hw1
    obtain rfl := ec2 (by kernel_rfl)
    obtain ⟨rv1, wv1, hb⟩ := hw1
    have hb : Both w b m p w.heap.size d rv wv rv1 wv1 l1 (t) l t w1 := hb
    have x0 := cell_of hb.cell 0
    have x1 := cell_of hb.cell 1
    have x2 := cell_of hb.cell 2
    have x3 := cell_of hb.cell 3
    have HW1 := hid hb
    clear hb ec1 ec2
    go_wp2_with (go_at_call 38; refine (HR.out _ _ _ HW1.out.rf).mono ?_; rintro e w2 ⟨rv2, wv2, rfl, hR, hX, n1, n2⟩)
    refine ⟨?_, rv2, wv2, HW1.out.r hR hX n1 n2⟩
    exact rfl
  · kernel_rfl
  iterate 3
    refine SeqC.calm (a' := ?_) (by decide) (by decide) ?_ ?_ ?_
    rotate_left
    ·
      intro b1 b2 w1 ec1 ec2 ed1 ed2 hw1
      have HW1 := hid hw1
      obtain ⟨rv1, wv1, hb⟩ := hw1
      have x0 := cell_of hb.cell 0
      have x1 := cell_of hb.cell 1
      have x2 := cell_of hb.cell 2
      have x3 := cell_of hb.cell 3
      clear hb ec1 ec2 ed1 ed2
      go_wp2_with fail
      refine ⟨?_, HW1.out⟩
      exact rfl
    · kernel_rfl
  refine SeqC.nil ?_
  intro D w1 hD hI
  replace hI := hI.done (hD 4 (by omega)) (hD 8 (by omega))
  obtain ⟨rv1, wv1, hb⟩ := hI
  have hb : Both w b m p w.heap.size d rv wv rv1 wv1 l1 (t) l1 (t) w1 := hb
  clear hD
  dsimp only [List.drop]
  have HB1 := hid hb
  clear hb
  go_wp2_with fail
  go_ret2
  exact ⟨b, m, rv1, wv1, l1, _, rfl, HB1.out.lk, HB1.out.rf, HB1.out.mod, .inl ⟨rfl, rfl⟩, HB1.out.nr, HB1.out.nw, HLEN.out, HT.out.1, HT.out.2⟩

/-- The reference's deeds that keep its rows where they are. -/
theorem stays {P : Program} {f : FuncId} {args : Array Value} {w1 : World} {rv wv : Value} {v : Value} {l1 : List (RefK × Wd)} {t1 : Int} (h : Calls P f args w1 fun e w' => e = .returned v ∧ RAt w' p rv wv l1 t1 ∧ Mod (ROwn p rv wv) w1 w') :
    Calls P f args w1 fun e w' => ∃ rv' wv', e = .returned v ∧ RAt w' p rv' wv' l1 t1 ∧ Mod (ROwn p rv wv) w1 w' ∧ (∀ g, rv'.ownBlock = some g → rv.ownBlock = some g ∨ w1.heap.size ≤ g) ∧ (∀ g, wv'.ownBlock = some g → wv.ownBlock = some g ∨ w1.heap.size ≤ g) :=
  h.mono fun _ _ ⟨h1, h2, h3⟩ => ⟨rv, wv, h1, h2, h3, fun _ hg => .inl hg, fun _ hg => .inl hg⟩

set_option maxHeartbeats 1000000 in
theorem does_4 (h : LocksAt w b m l t) (hr : RAt w p rv wv l t) (d : LDeed) (hn : l.length ≤ 1000) (h0 : 0 ≤ t) (h1 : t ≤ 1000) (hp : d.what % 8 = 4) : Calls Try.prog 21 #[.pointer (some ⟨b, 0, none⟩), .pointer (some ⟨p, 0, none⟩), .agg #[.int .i64 d.what, .int .i64 d.ref.1.1, .int .u32 d.ref.1.2, .int .u64 d.w.1]] w fun e w' => Left w b m p rv wv l t e w' := by
  have hnd := h.2.nodup
  have hB : Both w b m p w.heap.size d rv wv rv wv l t l t (w.alloc (.cells #[.int .i64 d.what, .int .i64 d.ref.1.1, .int .u32 d.ref.1.2, .int .u64 d.w.1] 38)) := ⟨h.alloc _, hr.alloc _, heap_new _ _, (Mod.refl _ w).alloc _, fun g hg => .inl hg, fun g hg => .inl hg⟩
  have HB := hid hB
  have HP := hid hp
  have HA := hid (fun (w1 : World) (h : LocksAt w1 b m l t) => drop_at h d.ref)
  have HR := hid (fun (w1 : World) rv wv (h : RAt w1 p rv wv l t) => stays (rturn_drop h d.ref (by omega) hnd))
  have HLEN := hid (turnL_len l d.ref Wd.drop)
  have HT := hid (show 0 ≤ t ∧ t ≤ t + 1 by omega)
  clear hB h hr hp hnd h0 h1
  generalize turnL l d.ref Wd.drop = q at *
  obtain ⟨er, l1⟩ := q
  simp only [] at HA HR HLEN
  have hx := HB.out.cell
  have x0 := cell_of hx 0
  have x1 := cell_of hx 1
  have x2 := cell_of hx 2
  have x3 := cell_of hx 3
  clear hx
  go_enter Try.func21, Try.ntmps21
  go_wp2_with (go_at_call 12; refine (pick_any d.what 8 4 _ (by decide) (by decide) HP.out).mono ?_; rintro e wp ⟨rfl, rfl⟩)
  clear x0 x1 x2 x3
  refine wp_region_seqC 12 (Turn2 4 8 (BothS w b m p w.heap.size d rv wv l l1 t (t))) (by kernel_rfl) (by kernel_rfl) (by kernel_rfl) (Turn2.start ⟨rv, wv, HB.out.keep ⟨rfl, rfl, rfl, Nat.le_refl _, fun _ _ => rfl⟩⟩) ?_
  dsimp only [List.take]
  iterate 4
    refine SeqC.calm (a' := ?_) (by decide) (by decide) ?_ ?_ ?_
    rotate_left
    ·
      intro b1 b2 w1 ec1 ec2 ed1 ed2 hw1
      have HW1 := hid hw1
      obtain ⟨rv1, wv1, hb⟩ := hw1
      have x0 := cell_of hb.cell 0
      have x1 := cell_of hb.cell 1
      have x2 := cell_of hb.cell 2
      have x3 := cell_of hb.cell 3
      clear hb ec1 ec2 ed1 ed2
      go_wp2_with fail
      refine ⟨?_, HW1.out⟩
      exact rfl
    · kernel_rfl
  refine SeqC.fst (a' := ?_) (by decide) ?_ ?_ ?_
  rotate_left
  ·
    intro b2 w1 ed1 ed2 hw1
    obtain rfl := ed1 (by kernel_rfl)
    obtain ⟨rv1, wv1, hb⟩ := hw1
    have hb : Both w b m p w.heap.size d rv wv rv1 wv1 l t l t w1 := hb
    have x0 := cell_of hb.cell 0
    have x1 := cell_of hb.cell 1
    have x2 := cell_of hb.cell 2
    have x3 := cell_of hb.cell 3
    have HW1 := hid hb
    clear hb ed1 ed2
    go_wp2_with (go_at_call 14; refine (HA.out _ HW1.out.lk).mono ?_; rintro e w2 ⟨rfl, hL, hX⟩)
    refine ⟨?_, rv1, wv1, HW1.out.a hL hX⟩
    exact rfl
  · kernel_rfl
  iterate 3
    refine SeqC.calm (a' := ?_) (by decide) (by decide) ?_ ?_ ?_
    rotate_left
    ·
      intro b1 b2 w1 ec1 ec2 ed1 ed2 hw1
      have HW1 := hid hw1
      obtain ⟨rv1, wv1, hb⟩ := hw1
      have x0 := cell_of hb.cell 0
      have x1 := cell_of hb.cell 1
      have x2 := cell_of hb.cell 2
      have x3 := cell_of hb.cell 3
      clear hb ec1 ec2 ed1 ed2
      go_wp2_with fail
      refine ⟨?_, HW1.out⟩
      exact rfl
    · kernel_rfl
  refine SeqC.snd (a' := ?_) (by decide) ?_ ?_ ?_
  rotate_left
  ·
    intro b1 w1 ec1 ec2 hw1
    obtain rfl := ec2 (by kernel_rfl)
    obtain ⟨rv1, wv1, hb⟩ := hw1
    have hb : Both w b m p w.heap.size d rv wv rv1 wv1 l1 (t) l t w1 := hb
    have x0 := cell_of hb.cell 0
    have x1 := cell_of hb.cell 1
    have x2 := cell_of hb.cell 2
    have x3 := cell_of hb.cell 3
    have HW1 := hid hb
    clear hb ec1 ec2
    go_wp2_with (go_at_call 41; refine (HR.out _ _ _ HW1.out.rf).mono ?_; rintro e w2 ⟨rv2, wv2, rfl, hR, hX, n1, n2⟩)
    refine ⟨?_, rv2, wv2, HW1.out.r hR hX n1 n2⟩
    exact rfl
  · kernel_rfl
  iterate 3
    refine SeqC.calm (a' := ?_) (by decide) (by decide) ?_ ?_ ?_
    rotate_left
    ·
      intro b1 b2 w1 ec1 ec2 ed1 ed2 hw1
      have HW1 := hid hw1
      obtain ⟨rv1, wv1, hb⟩ := hw1
      have x0 := cell_of hb.cell 0
      have x1 := cell_of hb.cell 1
      have x2 := cell_of hb.cell 2
      have x3 := cell_of hb.cell 3
      clear hb ec1 ec2 ed1 ed2
      go_wp2_with fail
      refine ⟨?_, HW1.out⟩
      exact rfl
    · kernel_rfl
  refine SeqC.nil ?_
  intro D w1 hD hI
  replace hI := hI.done (hD 4 (by omega)) (hD 8 (by omega))
  obtain ⟨rv1, wv1, hb⟩ := hI
  have hb : Both w b m p w.heap.size d rv wv rv1 wv1 l1 (t) l1 (t) w1 := hb
  clear hD
  dsimp only [List.drop]
  have HB1 := hid hb
  clear hb
  go_wp2_with fail
  go_ret2
  exact ⟨b, m, rv1, wv1, l1, _, rfl, HB1.out.lk, HB1.out.rf, HB1.out.mod, .inl ⟨rfl, rfl⟩, HB1.out.nr, HB1.out.nw, HLEN.out, HT.out.1, HT.out.2⟩
set_option maxHeartbeats 1000000 in
theorem does_5 (h : LocksAt w b m l t) (hr : RAt w p rv wv l t) (d : LDeed) (hn : l.length ≤ 1000) (h0 : 0 ≤ t) (h1 : t ≤ 1000) (hp : d.what % 8 = 5) : Calls Try.prog 21 #[.pointer (some ⟨b, 0, none⟩), .pointer (some ⟨p, 0, none⟩), .agg #[.int .i64 d.what, .int .i64 d.ref.1.1, .int .u32 d.ref.1.2, .int .u64 d.w.1]] w fun e w' => Left w b m p rv wv l t e w' := by
  have hnd := h.2.nodup
  have hB : Both w b m p w.heap.size d rv wv rv wv l t l t (w.alloc (.cells #[.int .i64 d.what, .int .i64 d.ref.1.1, .int .u32 d.ref.1.2, .int .u64 d.w.1] 38)) := ⟨h.alloc _, hr.alloc _, heap_new _ _, (Mod.refl _ w).alloc _, fun g hg => .inl hg, fun g hg => .inl hg⟩
  have HB := hid hB
  have HP := hid hp
  have HA := hid (fun (w1 : World) (h : LocksAt w1 b m l t) => done_at h d.ref)
  have HR := hid (fun (w1 : World) rv wv (h : RAt w1 p rv wv l t) => stays (rturn_done h d.ref (by omega) hnd))
  have HLEN := hid (turnL_len l d.ref Wd.done)
  have HT := hid (show 0 ≤ t ∧ t ≤ t + 1 by omega)
  clear hB h hr hp hnd h0 h1
  generalize turnL l d.ref Wd.done = q at *
  obtain ⟨er, l1⟩ := q
  simp only [] at HA HR HLEN
  have hx := HB.out.cell
  have x0 := cell_of hx 0
  have x1 := cell_of hx 1
  have x2 := cell_of hx 2
  have x3 := cell_of hx 3
  clear hx
  go_enter Try.func21, Try.ntmps21
  go_wp2_with (go_at_call 12; refine (pick_any d.what 8 5 _ (by decide) (by decide) HP.out).mono ?_; rintro e wp ⟨rfl, rfl⟩)
  clear x0 x1 x2 x3
  refine wp_region_seqC 12 (Turn2 4 8 (BothS w b m p w.heap.size d rv wv l l1 t (t))) (by kernel_rfl) (by kernel_rfl) (by kernel_rfl) (Turn2.start ⟨rv, wv, HB.out.keep ⟨rfl, rfl, rfl, Nat.le_refl _, fun _ _ => rfl⟩⟩) ?_
  dsimp only [List.take]
  iterate 4
    refine SeqC.calm (a' := ?_) (by decide) (by decide) ?_ ?_ ?_
    rotate_left
    ·
      intro b1 b2 w1 ec1 ec2 ed1 ed2 hw1
      have HW1 := hid hw1
      obtain ⟨rv1, wv1, hb⟩ := hw1
      have x0 := cell_of hb.cell 0
      have x1 := cell_of hb.cell 1
      have x2 := cell_of hb.cell 2
      have x3 := cell_of hb.cell 3
      clear hb ec1 ec2 ed1 ed2
      go_wp2_with fail
      refine ⟨?_, HW1.out⟩
      exact rfl
    · kernel_rfl
  refine SeqC.fst (a' := ?_) (by decide) ?_ ?_ ?_
  rotate_left
  ·
    intro b2 w1 ed1 ed2 hw1
    obtain rfl := ed1 (by kernel_rfl)
    obtain ⟨rv1, wv1, hb⟩ := hw1
    have hb : Both w b m p w.heap.size d rv wv rv1 wv1 l t l t w1 := hb
    have x0 := cell_of hb.cell 0
    have x1 := cell_of hb.cell 1
    have x2 := cell_of hb.cell 2
    have x3 := cell_of hb.cell 3
    have HW1 := hid hb
    clear hb ed1 ed2
    go_wp2_with (go_at_call 15; refine (HA.out _ HW1.out.lk).mono ?_; rintro e w2 ⟨rfl, hL, hX⟩)
    refine ⟨?_, rv1, wv1, HW1.out.a hL hX⟩
    exact rfl
  · kernel_rfl
  iterate 3
    refine SeqC.calm (a' := ?_) (by decide) (by decide) ?_ ?_ ?_
    rotate_left
    ·
      intro b1 b2 w1 ec1 ec2 ed1 ed2 hw1
      have HW1 := hid hw1
      obtain ⟨rv1, wv1, hb⟩ := hw1
      have x0 := cell_of hb.cell 0
      have x1 := cell_of hb.cell 1
      have x2 := cell_of hb.cell 2
      have x3 := cell_of hb.cell 3
      clear hb ec1 ec2 ed1 ed2
      go_wp2_with fail
      refine ⟨?_, HW1.out⟩
      exact rfl
    · kernel_rfl
  refine SeqC.snd (a' := ?_) (by decide) ?_ ?_ ?_
  rotate_left
  ·
    intro b1 w1 ec1 ec2 hw1
    obtain rfl := ec2 (by kernel_rfl)
    obtain ⟨rv1, wv1, hb⟩ := hw1
    have hb : Both w b m p w.heap.size d rv wv rv1 wv1 l1 (t) l t w1 := hb
    have x0 := cell_of hb.cell 0
    have x1 := cell_of hb.cell 1
    have x2 := cell_of hb.cell 2
    have x3 := cell_of hb.cell 3
    have HW1 := hid hb
    clear hb ec1 ec2
    go_wp2_with (go_at_call 41; refine (HR.out _ _ _ HW1.out.rf).mono ?_; rintro e w2 ⟨rv2, wv2, rfl, hR, hX, n1, n2⟩)
    refine ⟨?_, rv2, wv2, HW1.out.r hR hX n1 n2⟩
    exact rfl
  · kernel_rfl
  iterate 3
    refine SeqC.calm (a' := ?_) (by decide) (by decide) ?_ ?_ ?_
    rotate_left
    ·
      intro b1 b2 w1 ec1 ec2 ed1 ed2 hw1
      have HW1 := hid hw1
      obtain ⟨rv1, wv1, hb⟩ := hw1
      have x0 := cell_of hb.cell 0
      have x1 := cell_of hb.cell 1
      have x2 := cell_of hb.cell 2
      have x3 := cell_of hb.cell 3
      clear hb ec1 ec2 ed1 ed2
      go_wp2_with fail
      refine ⟨?_, HW1.out⟩
      exact rfl
    · kernel_rfl
  refine SeqC.nil ?_
  intro D w1 hD hI
  replace hI := hI.done (hD 4 (by omega)) (hD 8 (by omega))
  obtain ⟨rv1, wv1, hb⟩ := hI
  have hb : Both w b m p w.heap.size d rv wv rv1 wv1 l1 (t) l1 (t) w1 := hb
  clear hD
  dsimp only [List.drop]
  have HB1 := hid hb
  clear hb
  go_wp2_with fail
  go_ret2
  exact ⟨b, m, rv1, wv1, l1, _, rfl, HB1.out.lk, HB1.out.rf, HB1.out.mod, .inl ⟨rfl, rfl⟩, HB1.out.nr, HB1.out.nw, HLEN.out, HT.out.1, HT.out.2⟩
set_option maxHeartbeats 1000000 in
theorem does_6 (h : LocksAt w b m l t) (hr : RAt w p rv wv l t) (d : LDeed) (hn : l.length ≤ 1000) (h0 : 0 ≤ t) (h1 : t ≤ 1000) (hp : d.what % 8 = 6) : Calls Try.prog 21 #[.pointer (some ⟨b, 0, none⟩), .pointer (some ⟨p, 0, none⟩), .agg #[.int .i64 d.what, .int .i64 d.ref.1.1, .int .u32 d.ref.1.2, .int .u64 d.w.1]] w fun e w' => Left w b m p rv wv l t e w' := by
  have hnd := h.2.nodup
  have hB : Both w b m p w.heap.size d rv wv rv wv l t l t (w.alloc (.cells #[.int .i64 d.what, .int .i64 d.ref.1.1, .int .u32 d.ref.1.2, .int .u64 d.w.1] 38)) := ⟨h.alloc _, hr.alloc _, heap_new _ _, (Mod.refl _ w).alloc _, fun g hg => .inl hg, fun g hg => .inl hg⟩
  have HB := hid hB
  have HP := hid hp
  have HA := hid (fun (w1 : World) (h : LocksAt w1 b m l t) => kill_at h d.ref)
  have HR := hid (fun (w1 : World) rv wv (h : RAt w1 p rv wv l t) => stays (rturn_kill h d.ref (by omega) hnd))
  have HLEN := hid (turnL_len l d.ref Wd.kill)
  have HT := hid (show 0 ≤ t ∧ t ≤ t + 1 by omega)
  clear hB h hr hp hnd h0 h1
  generalize turnL l d.ref Wd.kill = q at *
  obtain ⟨er, l1⟩ := q
  simp only [] at HA HR HLEN
  have hx := HB.out.cell
  have x0 := cell_of hx 0
  have x1 := cell_of hx 1
  have x2 := cell_of hx 2
  have x3 := cell_of hx 3
  clear hx
  go_enter Try.func21, Try.ntmps21
  go_wp2_with (go_at_call 12; refine (pick_any d.what 8 6 _ (by decide) (by decide) HP.out).mono ?_; rintro e wp ⟨rfl, rfl⟩)
  clear x0 x1 x2 x3
  refine wp_region_seqC 12 (Turn2 4 8 (BothS w b m p w.heap.size d rv wv l l1 t (t))) (by kernel_rfl) (by kernel_rfl) (by kernel_rfl) (Turn2.start ⟨rv, wv, HB.out.keep ⟨rfl, rfl, rfl, Nat.le_refl _, fun _ _ => rfl⟩⟩) ?_
  dsimp only [List.take]
  iterate 4
    refine SeqC.calm (a' := ?_) (by decide) (by decide) ?_ ?_ ?_
    rotate_left
    ·
      intro b1 b2 w1 ec1 ec2 ed1 ed2 hw1
      have HW1 := hid hw1
      obtain ⟨rv1, wv1, hb⟩ := hw1
      have x0 := cell_of hb.cell 0
      have x1 := cell_of hb.cell 1
      have x2 := cell_of hb.cell 2
      have x3 := cell_of hb.cell 3
      clear hb ec1 ec2 ed1 ed2
      go_wp2_with fail
      refine ⟨?_, HW1.out⟩
      exact rfl
    · kernel_rfl
  refine SeqC.fst (a' := ?_) (by decide) ?_ ?_ ?_
  rotate_left
  ·
    intro b2 w1 ed1 ed2 hw1
    obtain rfl := ed1 (by kernel_rfl)
    obtain ⟨rv1, wv1, hb⟩ := hw1
    have hb : Both w b m p w.heap.size d rv wv rv1 wv1 l t l t w1 := hb
    have x0 := cell_of hb.cell 0
    have x1 := cell_of hb.cell 1
    have x2 := cell_of hb.cell 2
    have x3 := cell_of hb.cell 3
    have HW1 := hid hb
    clear hb ed1 ed2
    go_wp2_with (go_at_call 16; refine (HA.out _ HW1.out.lk).mono ?_; rintro e w2 ⟨rfl, hL, hX⟩)
    refine ⟨?_, rv1, wv1, HW1.out.a hL hX⟩
    exact rfl
  · kernel_rfl
  iterate 3
    refine SeqC.calm (a' := ?_) (by decide) (by decide) ?_ ?_ ?_
    rotate_left
    ·
      intro b1 b2 w1 ec1 ec2 ed1 ed2 hw1
      have HW1 := hid hw1
      obtain ⟨rv1, wv1, hb⟩ := hw1
      have x0 := cell_of hb.cell 0
      have x1 := cell_of hb.cell 1
      have x2 := cell_of hb.cell 2
      have x3 := cell_of hb.cell 3
      clear hb ec1 ec2 ed1 ed2
      go_wp2_with fail
      refine ⟨?_, HW1.out⟩
      exact rfl
    · kernel_rfl
  refine SeqC.snd (a' := ?_) (by decide) ?_ ?_ ?_
  rotate_left
  ·
    intro b1 w1 ec1 ec2 hw1
    obtain rfl := ec2 (by kernel_rfl)
    obtain ⟨rv1, wv1, hb⟩ := hw1
    have hb : Both w b m p w.heap.size d rv wv rv1 wv1 l1 (t) l t w1 := hb
    have x0 := cell_of hb.cell 0
    have x1 := cell_of hb.cell 1
    have x2 := cell_of hb.cell 2
    have x3 := cell_of hb.cell 3
    have HW1 := hid hb
    clear hb ec1 ec2
    go_wp2_with (go_at_call 41; refine (HR.out _ _ _ HW1.out.rf).mono ?_; rintro e w2 ⟨rv2, wv2, rfl, hR, hX, n1, n2⟩)
    refine ⟨?_, rv2, wv2, HW1.out.r hR hX n1 n2⟩
    exact rfl
  · kernel_rfl
  iterate 3
    refine SeqC.calm (a' := ?_) (by decide) (by decide) ?_ ?_ ?_
    rotate_left
    ·
      intro b1 b2 w1 ec1 ec2 ed1 ed2 hw1
      have HW1 := hid hw1
      obtain ⟨rv1, wv1, hb⟩ := hw1
      have x0 := cell_of hb.cell 0
      have x1 := cell_of hb.cell 1
      have x2 := cell_of hb.cell 2
      have x3 := cell_of hb.cell 3
      clear hb ec1 ec2 ed1 ed2
      go_wp2_with fail
      refine ⟨?_, HW1.out⟩
      exact rfl
    · kernel_rfl
  refine SeqC.nil ?_
  intro D w1 hD hI
  replace hI := hI.done (hD 4 (by omega)) (hD 8 (by omega))
  obtain ⟨rv1, wv1, hb⟩ := hI
  have hb : Both w b m p w.heap.size d rv wv rv1 wv1 l1 (t) l1 (t) w1 := hb
  clear hD
  dsimp only [List.drop]
  have HB1 := hid hb
  clear hb
  go_wp2_with fail
  go_ret2
  exact ⟨b, m, rv1, wv1, l1, _, rfl, HB1.out.lk, HB1.out.rf, HB1.out.mod, .inl ⟨rfl, rfl⟩, HB1.out.nr, HB1.out.nw, HLEN.out, HT.out.1, HT.out.2⟩

theorem beg_word (l : List (RefK × Wd)) (r : RefK) : (beg l r).1 = ((lkp l r).getD w0).1 := by
  unfold beg
  cases lkp l r <;> rfl
set_option maxHeartbeats 1000000 in
theorem does_2 (h : LocksAt w b m l t) (hr : RAt w p rv wv l t) (d : LDeed) (hn : l.length ≤ 1000) (h0 : 0 ≤ t) (h1 : t ≤ 1000) (hp : d.what % 8 = 2) : Calls Try.prog 21 #[.pointer (some ⟨b, 0, none⟩), .pointer (some ⟨p, 0, none⟩), .agg #[.int .i64 d.what, .int .i64 d.ref.1.1, .int .u32 d.ref.1.2, .int .u64 d.w.1]] w fun e w' => Left w b m p rv wv l t e w' := by
  have hnd := h.2.nodup
  have hB : Both w b m p w.heap.size d rv wv rv wv l t l t (w.alloc (.cells #[.int .i64 d.what, .int .i64 d.ref.1.1, .int .u32 d.ref.1.2, .int .u64 d.w.1] 38)) := ⟨h.alloc _, hr.alloc _, heap_new _ _, (Mod.refl _ w).alloc _, fun g hg => .inl hg, fun g hg => .inl hg⟩
  have HB := hid hB
  have HP := hid hp
  have HA := hid (fun (w1 : World) (h : LocksAt w1 b m l t) => lock_at0 h d.ref d.w (by omega) h0)
  have HR := hid (fun (w1 : World) rv wv (h : RAt w1 p rv wv l t) => stays (rlock_any h d.ref d.w (by omega) hnd (by omega) h0))
  have HLEN := hid (lockL_len l d.ref d.w)
  generalize lockL l d.ref d.w = q at *
  obtain ⟨er, l1⟩ := q
  simp only [] at HA HR HLEN
  have HT := hid (show 0 ≤ (if er = true then t + 1 else t) ∧ (if er = true then t + 1 else t) ≤ t + 1 by split <;> omega)
  generalize (if er = true then t + 1 else t) = t1 at *
  clear hnd h0 h1
  clear hB h hr hp
  have hx := HB.out.cell
  have x0 := cell_of hx 0
  have x1 := cell_of hx 1
  have x2 := cell_of hx 2
  have x3 := cell_of hx 3
  clear hx
  go_enter Try.func21, Try.ntmps21
  go_wp2_with (go_at_call 12; refine (pick_any d.what 8 2 _ (by decide) (by decide) HP.out).mono ?_; rintro e wp ⟨rfl, rfl⟩)
  clear x0 x1 x2 x3
  refine wp_region_seqC 16 (Turn2 6 12 (BothS w b m p w.heap.size d rv wv l l1 t (t1))) (by kernel_rfl) (by kernel_rfl) (by kernel_rfl) (Turn2.start ⟨rv, wv, HB.out.keep ⟨rfl, rfl, rfl, Nat.le_refl _, fun _ _ => rfl⟩⟩) ?_
  dsimp only [List.take]
  iterate 6
    refine SeqC.calm (a' := ?_) (by decide) (by decide) ?_ ?_ ?_
    rotate_left
    ·
      intro b1 b2 w1 ec1 ec2 ed1 ed2 hw1
      have HW1 := hid hw1
      obtain ⟨rv1, wv1, hb⟩ := hw1
      have x0 := cell_of hb.cell 0
      have x1 := cell_of hb.cell 1
      have x2 := cell_of hb.cell 2
      have x3 := cell_of hb.cell 3
      clear hb ec1 ec2 ed1 ed2
      go_wp2_with fail
      refine ⟨?_, HW1.out⟩
      exact rfl
    · kernel_rfl
  refine SeqC.fst (a' := ?_) (by decide) ?_ ?_ ?_
  rotate_left
  ·
    intro b2 w1 ed1 ed2 hw1
    obtain rfl := ed1 (by kernel_rfl)
    obtain ⟨rv1, wv1, hb⟩ := hw1
    have hb : Both w b m p w.heap.size d rv wv rv1 wv1 l t l t w1 := hb
    have x0 := cell_of hb.cell 0
    have x1 := cell_of hb.cell 1
    have x2 := cell_of hb.cell 2
    have x3 := cell_of hb.cell 3
    have HW1 := hid hb
    clear hb ed1 ed2
    go_wp2_with (go_at_call 13; refine (HA.out _ HW1.out.lk).mono ?_; rintro e w2 ⟨rfl, hL, hX⟩)
    refine ⟨?_, rv1, wv1, HW1.out.a hL hX⟩
    exact rfl
  · kernel_rfl
  iterate 5
    refine SeqC.calm (a' := ?_) (by decide) (by decide) ?_ ?_ ?_
    rotate_left
    ·
      intro b1 b2 w1 ec1 ec2 ed1 ed2 hw1
      have HW1 := hid hw1
      obtain ⟨rv1, wv1, hb⟩ := hw1
      have x0 := cell_of hb.cell 0
      have x1 := cell_of hb.cell 1
      have x2 := cell_of hb.cell 2
      have x3 := cell_of hb.cell 3
      clear hb ec1 ec2 ed1 ed2
      go_wp2_with fail
      refine ⟨?_, HW1.out⟩
      exact rfl
    · kernel_rfl
  refine SeqC.snd (a' := ?_) (by decide) ?_ ?_ ?_
  rotate_left
  ·
    intro b1 w1 ec1 ec2 hw1
    obtain rfl := ec2 (by kernel_rfl)
    obtain ⟨rv1, wv1, hb⟩ := hw1
    have hb : Both w b m p w.heap.size d rv wv rv1 wv1 l1 (t1) l t w1 := hb
    have x0 := cell_of hb.cell 0
    have x1 := cell_of hb.cell 1
    have x2 := cell_of hb.cell 2
    have x3 := cell_of hb.cell 3
    have HW1 := hid hb
    clear hb ec1 ec2
    go_wp2_with (go_at_call 39; refine (HR.out _ _ _ HW1.out.rf).mono ?_; rintro e w2 ⟨rv2, wv2, rfl, hR, hX, n1, n2⟩)
    refine ⟨?_, rv2, wv2, HW1.out.r hR hX n1 n2⟩
    exact rfl
  · kernel_rfl
  iterate 3
    refine SeqC.calm (a' := ?_) (by decide) (by decide) ?_ ?_ ?_
    rotate_left
    ·
      intro b1 b2 w1 ec1 ec2 ed1 ed2 hw1
      have HW1 := hid hw1
      obtain ⟨rv1, wv1, hb⟩ := hw1
      have x0 := cell_of hb.cell 0
      have x1 := cell_of hb.cell 1
      have x2 := cell_of hb.cell 2
      have x3 := cell_of hb.cell 3
      clear hb ec1 ec2 ed1 ed2
      go_wp2_with fail
      refine ⟨?_, HW1.out⟩
      exact rfl
    · kernel_rfl
  refine SeqC.nil ?_
  intro D w1 hD hI
  replace hI := hI.done (hD 6 (by omega)) (hD 12 (by omega))
  obtain ⟨rv1, wv1, hb⟩ := hI
  have hb : Both w b m p w.heap.size d rv wv rv1 wv1 l1 (t1) l1 (t1) w1 := hb
  clear hD
  dsimp only [List.drop]
  have HB1 := hid hb
  clear hb
  go_wp2_with fail
  go_ret2
  exact ⟨b, m, rv1, wv1, l1, _, rfl, HB1.out.lk, HB1.out.rf, HB1.out.mod, .inl ⟨rfl, rfl⟩, HB1.out.nr, HB1.out.nw, HLEN.out, HT.out.1, HT.out.2⟩

set_option maxHeartbeats 1000000 in
theorem does_3 (h : LocksAt w b m l t) (hr : RAt w p rv wv l t) (d : LDeed) (hn : l.length ≤ 1000) (h0 : 0 ≤ t) (h1 : t ≤ 1000) (hp : d.what % 8 = 3) : Calls Try.prog 21 #[.pointer (some ⟨b, 0, none⟩), .pointer (some ⟨p, 0, none⟩), .agg #[.int .i64 d.what, .int .i64 d.ref.1.1, .int .u32 d.ref.1.2, .int .u64 d.w.1]] w fun e w' => Left w b m p rv wv l t e w' := by
  have hnd := h.2.nodup
  have hB : Both w b m p w.heap.size d rv wv rv wv l t l t (w.alloc (.cells #[.int .i64 d.what, .int .i64 d.ref.1.1, .int .u32 d.ref.1.2, .int .u64 d.w.1] 38)) := ⟨h.alloc _, hr.alloc _, heap_new _ _, (Mod.refl _ w).alloc _, fun g hg => .inl hg, fun g hg => .inl hg⟩
  have HB := hid hB
  have HP := hid hp
  have HG := hid (rbegin_any hB.rf d.ref (by omega))
  rw [beg_word] at HG
  generalize (lkp l d.ref).getD w0 = y at HG
  generalize (beg l d.ref).2 = s at HG
  have HA := hid (fun (w1 : World) (h : LocksAt w1 b m l t) => lock_at0 h d.ref y (by omega) h0)
  have HR := hid (fun (w1 : World) rv wv (h : RAt w1 p rv wv l t) => stays (rlock_any h d.ref y (by omega) hnd (by omega) h0))
  have HLEN := hid (lockL_len l d.ref y)
  generalize lockL l d.ref y = q at *
  obtain ⟨er, l1⟩ := q
  simp only [] at HA HR HLEN
  have HT := hid (show 0 ≤ (if er = true then t + 1 else t) ∧ (if er = true then t + 1 else t) ≤ t + 1 by split <;> omega)
  generalize (if er = true then t + 1 else t) = t1 at *
  clear hnd h0 h1
  clear h hr hp
  have hx := HB.out.cell
  have x0 := cell_of hx 0
  have x1 := cell_of hx 1
  have x2 := cell_of hx 2
  have x3 := cell_of hx 3
  clear hx
  go_enter Try.func21, Try.ntmps21
  go_wp2_with (go_at_call 12; refine (pick_any d.what 8 3 _ (by decide) (by decide) HP.out).mono ?_; rintro e wp ⟨rfl, rfl⟩)
  clear x0 x1 x2 x3
  refine HG.out.mono ?_
  rintro e w1 ⟨rfl, hb1⟩
  have HB := hid (hB.keep hb1)
  clear hB hb1
  go_wp2_with fail
  refine wp_region_seqC 14 (Turn2 5 10 (BothS w b m p w.heap.size d rv wv l l1 t (t1))) (by kernel_rfl) (by kernel_rfl) (by kernel_rfl) (Turn2.start ⟨rv, wv, HB.out.keep ⟨rfl, rfl, rfl, Nat.le_refl _, fun _ _ => rfl⟩⟩) ?_
  dsimp only [List.take]
  iterate 5
    refine SeqC.calm (a' := ?_) (by decide) (by decide) ?_ ?_ ?_
    rotate_left
    ·
      intro b1 b2 w1 ec1 ec2 ed1 ed2 hw1
      have HW1 := hid hw1
      obtain ⟨rv1, wv1, hb⟩ := hw1
      have x0 := cell_of hb.cell 0
      have x1 := cell_of hb.cell 1
      have x2 := cell_of hb.cell 2
      have x3 := cell_of hb.cell 3
      clear hb ec1 ec2 ed1 ed2
      go_wp2_with fail
      refine ⟨?_, HW1.out⟩
      exact rfl
    · kernel_rfl
  refine SeqC.fst (a' := ?_) (by decide) ?_ ?_ ?_
  rotate_left
  ·
    intro b2 w1 ed1 ed2 hw1
    obtain rfl := ed1 (by kernel_rfl)
    obtain ⟨rv1, wv1, hb⟩ := hw1
    have hb : Both w b m p w.heap.size d rv wv rv1 wv1 l t l t w1 := hb
    have x0 := cell_of hb.cell 0
    have x1 := cell_of hb.cell 1
    have x2 := cell_of hb.cell 2
    have x3 := cell_of hb.cell 3
    have HW1 := hid hb
    clear hb ed1 ed2
    go_wp2_with (go_at_call 13; refine (HA.out _ HW1.out.lk).mono ?_; rintro e w2 ⟨rfl, hL, hX⟩)
    refine ⟨?_, rv1, wv1, HW1.out.a hL hX⟩
    exact rfl
  · kernel_rfl
  iterate 4
    refine SeqC.calm (a' := ?_) (by decide) (by decide) ?_ ?_ ?_
    rotate_left
    ·
      intro b1 b2 w1 ec1 ec2 ed1 ed2 hw1
      have HW1 := hid hw1
      obtain ⟨rv1, wv1, hb⟩ := hw1
      have x0 := cell_of hb.cell 0
      have x1 := cell_of hb.cell 1
      have x2 := cell_of hb.cell 2
      have x3 := cell_of hb.cell 3
      clear hb ec1 ec2 ed1 ed2
      go_wp2_with fail
      refine ⟨?_, HW1.out⟩
      exact rfl
    · kernel_rfl
  refine SeqC.snd (a' := ?_) (by decide) ?_ ?_ ?_
  rotate_left
  ·
    intro b1 w1 ec1 ec2 hw1
    obtain rfl := ec2 (by kernel_rfl)
    obtain ⟨rv1, wv1, hb⟩ := hw1
    have hb : Both w b m p w.heap.size d rv wv rv1 wv1 l1 (t1) l t w1 := hb
    have x0 := cell_of hb.cell 0
    have x1 := cell_of hb.cell 1
    have x2 := cell_of hb.cell 2
    have x3 := cell_of hb.cell 3
    have HW1 := hid hb
    clear hb ec1 ec2
    go_wp2_with (go_at_call 39; refine (HR.out _ _ _ HW1.out.rf).mono ?_; rintro e w2 ⟨rv2, wv2, rfl, hR, hX, n1, n2⟩)
    refine ⟨?_, rv2, wv2, HW1.out.r hR hX n1 n2⟩
    exact rfl
  · kernel_rfl
  iterate 3
    refine SeqC.calm (a' := ?_) (by decide) (by decide) ?_ ?_ ?_
    rotate_left
    ·
      intro b1 b2 w1 ec1 ec2 ed1 ed2 hw1
      have HW1 := hid hw1
      obtain ⟨rv1, wv1, hb⟩ := hw1
      have x0 := cell_of hb.cell 0
      have x1 := cell_of hb.cell 1
      have x2 := cell_of hb.cell 2
      have x3 := cell_of hb.cell 3
      clear hb ec1 ec2 ed1 ed2
      go_wp2_with fail
      refine ⟨?_, HW1.out⟩
      exact rfl
    · kernel_rfl
  refine SeqC.nil ?_
  intro D w1 hD hI
  replace hI := hI.done (hD 5 (by omega)) (hD 10 (by omega))
  obtain ⟨rv1, wv1, hb⟩ := hI
  have hb : Both w b m p w.heap.size d rv wv rv1 wv1 l1 (t1) l1 (t1) w1 := hb
  clear hD
  dsimp only [List.drop]
  have HB1 := hid hb
  clear hb
  go_wp2_with fail
  go_ret2
  exact ⟨b, m, rv1, wv1, l1, _, rfl, HB1.out.lk, HB1.out.rf, HB1.out.mod, .inl ⟨rfl, rfl⟩, HB1.out.nr, HB1.out.nw, HLEN.out, HT.out.1, HT.out.2⟩
end
end Go.Proofs.Ytofkodfdgbjboaa
