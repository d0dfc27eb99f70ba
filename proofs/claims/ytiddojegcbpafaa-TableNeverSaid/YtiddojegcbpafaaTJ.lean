/- The tree: Fell of an anchor without kids: the walk. -/
--DEV
import Derived.Test.YtiddojegcbpafaaTI
import Derived.Test.YtiddojegcbpafaaRegIn
--END
namespace Go.Proofs.Ytiddojegcbpafaa.T
set_option maxRecDepth 8000
open Go.ChangeShapes Go.WideShapes Go.ChangeAt Go.RowKit Go.Burg
open Go.Burg.Lk Go.Shelf
attribute [local go_sem] Oper.semAt_some
--STATE
theorem kept_cells {A B : World} {row : Option Nat} {base k : Nat} {o : Obj} (hg : A.grownBy B row) (hr : ∀ r, row = some r → base ≤ r ∧ ∃ o : Obj, A.heap[r]? = some o ∧ o.isCells = false) (h : A.heap[k]? = some o) (ho : o.isCells = true) : B.heap[k]? = some o :=
  (hg.block k (lt_of_block h) (fun e => by obtain ⟨_, o2, h2, h3⟩ := hr k e.symm; rw [h] at h2; cases h2; rw [ho] at h3; cases h3)).trans h
/-- What stands in Fell's loop: the boxes; behind the one round the place is free. -/
structure FAt (w wl : World) (t sb sg kb km u : Nat) (slot gen : Int) (l l' : List (Cel Nd)) (L L' : List (RefK × Wd)) (pre : List Unit) (W : World) : Prop where
  b2 : W.heap[u]? = some (.cells #[.pointer (some ⟨t, 0, none⟩)] 24 (0, 0))
  b3 : W.heap[u + 1]? = some (.cells #[.int .i64 slot, .int .u32 gen] 72 (0, 0))
  ta : (pre = [] → TreeAt W t sb sg kb km l L ∧ W.heap[u + 1 + 1]? = some (.cells #[.int .i64 0] 3 (0, 0))) ∧ (pre ≠ [] → TreeAt W t sb sg kb km l' L' ∧ W.heap[u + 1 + 1]? = some (.cells #[.int .i64 1] 3 (0, 0)))
  mod : Mod (TOwn sg km) w W
  sz : wl.heap.size ≤ W.heap.size
theorem TreeAt.grown {t sb sg kb km base : Nat} {l : List (Cel Nd)} {L : List (RefK × Wd)} {A B : World} (h : TreeAt A t sb sg kb km l L) {row : Option Nat} (hg : A.grownBy B row) (hb : t < base ∧ sb < base ∧ sg < base ∧ kb < base ∧ km < base)
    (hr : ∀ r, row = some r → base ≤ r) : TreeAt B t sb sg kb km l L := by
  have hM : Mod (fun i => row = some i) A B := ⟨hg.os, hg.tape, hg.output, hg.size, fun k hk hn => hg.block k hk (fun e => hn e.symm)⟩
  exact h.mod hM (fun e => by have := hr _ e; omega) (fun e => by have := hr _ e; omega) (fun e => by have := hr _ e; omega) (fun e => by have := hr _ e; omega) (fun e => by have := hr _ e; omega)
theorem FAt.kept {w wl : World} {t sb sg kb km u : Nat} {slot gen : Int} {l l' : List (Cel Nd)} {L L' : List (RefK × Wd)} {pre : List Unit} {A B : World} (hs : FAt w wl t sb sg kb km u slot gen l l' L L' pre A) {row : Option Nat} (hg : A.grownBy B row)
    (hb : t < wl.heap.size ∧ sb < wl.heap.size ∧ sg < wl.heap.size ∧ kb < wl.heap.size ∧ km < wl.heap.size) (hu : u + 1 + 1 < wl.heap.size) (hw : w.heap.size ≤ wl.heap.size)
    (hr : ∀ r, row = some r → wl.heap.size ≤ r) : FAt w wl t sb sg kb km u slot gen l l' L L' pre B := by
  have e : ∀ (k : Nat) (o : Obj), k < wl.heap.size → A.heap[k]? = some o → B.heap[k]? = some o := fun k o hk ho => (hg.block k (lt_of_block ho) (fun e => by have := hr k e.symm; omega)).trans ho
  have hM : Mod (fun i => row = some i) A B := ⟨hg.os, hg.tape, hg.output, hg.size, fun k hk hn => hg.block k hk (fun e => hn e.symm)⟩
  refine ⟨e _ _ (by omega) hs.b2, e _ _ (by omega) hs.b3, ⟨fun hp => ⟨(hs.ta.1 hp).1.grown hg hb hr, e _ _ hu (hs.ta.1 hp).2⟩, fun hp => ⟨(hs.ta.2 hp).1.grown hg hb hr, e _ _ hu (hs.ta.2 hp).2⟩⟩, hs.mod.trans hM (fun i hi h => absurd (hr i h) (by omega)), Nat.le_trans hs.sz hg.size⟩

set_option maxRecDepth 100000 in
set_option maxHeartbeats 4000000 in
theorem fell_at {t sb sg kb km i : Nat} {l : List (Cel Nd)} {L : List (RefK × Wd)} {c : Cel Nd} (slot gen : Int) (w : World) (h : TreeAt w t sb sg kb km l L) (hL : S.Live l slot gen i c) (hk : c.x.kids.n = 0) (hp : c.x.planted = true) (r : RefK) (hr1 : r.1.1 = slot) (hr2 : r.1.2 = gen) :
    Calls Try.prog 25 #[.pointer (some ⟨t, 0, none⟩), .agg #[.int .i64 slot, .int .u32 gen]] w fun e w' => e = .returned (.tuple #[.int .i64 1, .int .i64 0]) ∧ TreeAt w' t sb sg kb km (l.set i ⟨false, Nd.zero, c.gen⟩) (K.goneL L r).2 ∧ Mod (TOwn sg km) w w' := by
  have hA := ((h.alloc (.cells #[.pointer (some ⟨t, 0, none⟩)] 24 (0, 0))).alloc (.cells #[.int .i64 slot, .int .u32 gen] 72 (0, 0))).alloc (.cells #[.int .i64 0] 3 (0, 0))
  have hs1 : (w.alloc (.cells #[.pointer (some ⟨t, 0, none⟩)] 24 (0, 0))).heap.size = w.heap.size + 1 := by simp
  have hs2 : ((w.alloc (.cells #[.pointer (some ⟨t, 0, none⟩)] 24 (0, 0))).alloc (.cells #[.int .i64 slot, .int .u32 gen] 72 (0, 0))).heap.size = w.heap.size + 2 := by simp
  have h2 := blk_alloc (o' := (.cells #[.int .i64 0] 3 (0, 0))) (blk_alloc (o' := (.cells #[.int .i64 slot, .int .u32 gen] 72 (0, 0))) (heap_new w (.cells #[.pointer (some ⟨t, 0, none⟩)] 24 (0, 0))))
  have h3 := blk_alloc (o' := (.cells #[.int .i64 0] 3 (0, 0))) (heap_new (w.alloc (.cells #[.pointer (some ⟨t, 0, none⟩)] 24 (0, 0))) (.cells #[.int .i64 slot, .int .u32 gen] 72 (0, 0)))
  have h4 := heap_new ((w.alloc (.cells #[.pointer (some ⟨t, 0, none⟩)] 24 (0, 0))).alloc (.cells #[.int .i64 slot, .int .u32 gen] 72 (0, 0))) (.cells #[.int .i64 0] 3 (0, 0))
  rw [hs1] at h3
  rw [hs2] at h4
  have hB : Below w.heap.size w (((w.alloc (.cells #[.pointer (some ⟨t, 0, none⟩)] 24 (0, 0))).alloc (.cells #[.int .i64 slot, .int .u32 gen] 72 (0, 0))).alloc (.cells #[.int .i64 0] 3 (0, 0))) := (((Below.refl _ _).alloc (Nat.le_refl _) _).alloc (by simp) _).alloc (by simp; omega) _
  have hlt : t < w.heap.size ∧ sb < w.heap.size ∧ sg < w.heap.size ∧ kb < w.heap.size ∧ km < w.heap.size := ⟨lt_of_block h.ht, h.hs.blt, h.hs.glt, h.hk.lt.1, h.hk.lt.2⟩
  have HLT := hid hlt
  have HL := hid hL
  have HK := hid hk
  have HP := hid hp
  have HR1 := hid hr1
  have HR2 := hid hr2
  clear hs1 hs2 h hlt hL hk hp hr1 hr2
  refine (callsIn_wide (n := 8)).1 ?_
  refine callsIn_of_wp_marks Try.func25 rfl trivial ?_ rfl
  refine wpIn_wide.2 ?_
  simp only [Try.ntmps25, List.size_toArray, List.length_cons, List.length_nil, Nat.reduceAdd, Nat.reduceSub, Array.replicate_succ, Array.replicate_zero, List.push_toArray, List.append_toArray, List.nil_append, List.cons_append]
  have hmf : ∀ (fn : Fn) (first cap : Array Value) (w : World), (Instr.makeFunc fn first cap).run Try.prog w = .ok (.func fn first cap) w := fun _ _ _ _ => rfl
  go_wp2_with fail
  generalize hW : (((w.alloc (.cells #[.pointer (some ⟨t, 0, none⟩)] 24 (0, 0))).alloc (.cells #[.int .i64 slot, .int .u32 gen] 72 (0, 0))).alloc (.cells #[.int .i64 0] 3 (0, 0))) = W at *
  generalize hU : w.heap.size = u at *
  have HA := hid hA
  have H2 := hid h2
  have H3 := hid h3
  have H4 := hid h4
  have HB := hid hB
  have HU := hid hU
  have k0 := cell_of h2 0
  have TM := hid (tmade_at W HA.out.ht)
  clear hW hA h2 h3 h4 hB hU
  have HPL : Hid (∀ w1, Below W.heap.size W w1 → Calls Try.prog 36 #[.pointer (some ⟨t, 0, none⟩), .agg #[.int .i64 slot, .int .u32 gen]] w1 fun e w' => e = .returned (.bool true) ∧ Below w1.heap.size w1 w') := hid fun w1 hw1 => by
    have := planted_at slot gen w1 (HA.out.keep hw1) HL.out
    rw [HP.out] at this
    exact this
  refine TM.out.mono ?_
  rintro e w1 ⟨rfl, rfl⟩
  clear TM
  go_wp2_with fail
  clear k0
  refine wp_region_seq 7 (fun w1 => Below (W).heap.size (W) w1) (by kernel_rfl) (by kernel_rfl) (by kernel_rfl) ⟨rfl, rfl, rfl, Nat.le_refl _, fun _ _ => rfl⟩ ?_
  dsimp only [List.take]
  iterate 7
    refine Seq.cons (a' := ?_) ?_ ?_ ?_
    rotate_left
    ·
      intro w1 hw1
      have k0 := cell_of (blk_below H2.out hw1 (lt_of_block H2.out)) 0; have k1 := cell_of (blk_below H3.out hw1 (lt_of_block H3.out)) 0; have k2 := cell_of (blk_below H3.out hw1 (lt_of_block H3.out)) 1
      go_wp2_with (go_at_call 36; refine (HPL.out _ hw1).mono ?_; rintro e w' ⟨rfl, hb⟩)
      refine ⟨?_, by first | assumption | (simpa using below_chain hw1 hb hw1.size)⟩
      exact rfl
    · kernel_rfl
  refine SeqI.nil ?_
  intro _ w1 _ hw1
  dsimp only [List.drop]
  have HA1 := hid (((HA.out.keep hw1).alloc (.cells #[.pointer (some ⟨t, 0, none⟩)] 24 (0, 0))).alloc (.cells #[.int .i64 slot, .int .u32 gen] 72 (0, 0)))
  have h2 := blk_below H2.out hw1 (lt_of_block H2.out)
  have h3 := blk_below H3.out hw1 (lt_of_block H3.out)
  have h4 := blk_below H4.out hw1 (lt_of_block H4.out)
  have k0 := cell_of h2 0
  have k1 := cell_of h3 0
  have k2 := cell_of h3 1
  have HB1 : Hid (Below w.heap.size w w1) := hid (by have h := HB.out; rw [← HU.out] at h; exact h.trans (hw1.mono h.size))
  have hlu := lt_of_block h4
  have H2 := hid (blk_alloc (o' := (.cells #[.int .i64 slot, .int .u32 gen] 72 (0, 0))) (blk_alloc (o' := (.cells #[.pointer (some ⟨t, 0, none⟩)] 24 (0, 0))) h2))
  have H3 := hid (blk_alloc (o' := (.cells #[.int .i64 slot, .int .u32 gen] 72 (0, 0))) (blk_alloc (o' := (.cells #[.pointer (some ⟨t, 0, none⟩)] 24 (0, 0))) h3))
  have H4 := hid (blk_alloc (o' := (.cells #[.int .i64 slot, .int .u32 gen] 72 (0, 0))) (blk_alloc (o' := (.cells #[.pointer (some ⟨t, 0, none⟩)] 24 (0, 0))) h4))
  clear hw1 h2 h3 h4 HA HPL HB
  go_wp2_with fail
  refine (below_at slot gen _).mono ?_
  rintro e w2 ⟨rfl, rfl⟩
  clear k0 k1 k2
  go_wp2_with fail
  have kB : ((w1.alloc (.cells #[.pointer (some ⟨t, 0, none⟩)] 24 (0, 0))).alloc (.cells #[.int .i64 slot, .int .u32 gen] 72 (0, 0))).heap[w1.heap.size]? = some (.cells #[.pointer (some ⟨t, 0, none⟩)] 24 (0, 0)) := blk_alloc (heap_new _ _)
  have kB1 : ((w1.alloc (.cells #[.pointer (some ⟨t, 0, none⟩)] 24 (0, 0))).alloc (.cells #[.int .i64 slot, .int .u32 gen] 72 (0, 0))).heap[w1.heap.size + 1]? = some (.cells #[.int .i64 slot, .int .u32 gen] 72 (0, 0)) := by
    have := heap_new (w1.alloc (.cells #[.pointer (some ⟨t, 0, none⟩)] 24 (0, 0))) (.cells #[.int .i64 slot, .int .u32 gen] 72 (0, 0))
    simpa using this
  have hsl : ((w1.alloc (.cells #[.pointer (some ⟨t, 0, none⟩)] 24 (0, 0))).alloc (.cells #[.int .i64 slot, .int .u32 gen] 72 (0, 0))).heap.size = w1.heap.size + 2 := by simp
  have hBl : Below w.heap.size w ((w1.alloc (.cells #[.pointer (some ⟨t, 0, none⟩)] 24 (0, 0))).alloc (.cells #[.int .i64 slot, .int .u32 gen] 72 (0, 0))) := (HB1.out.alloc HB1.out.size _).alloc (by have := HB1.out.size; simp; omega) _
  generalize ((w1.alloc (.cells #[.pointer (some ⟨t, 0, none⟩)] 24 (0, 0))).alloc (.cells #[.int .i64 slot, .int .u32 gen] 72 (0, 0))) = Wl at *
  generalize w1.heap.size = H at *
  have HKB := hid kB
  have HKB1 := hid kB1
  have hus := HU.out
  have HBl := hid hBl
  have HLW : Hid (t < Wl.heap.size ∧ sb < Wl.heap.size ∧ sg < Wl.heap.size ∧ kb < Wl.heap.size ∧ km < Wl.heap.size) := hid (by have := HLT.out; have := hBl.size; omega)
  have HUW : Hid (u + 1 + 1 < Wl.heap.size) := hid (lt_of_block H4.out)
  have HNE : Hid (¬ TOwn sg km u ∧ ¬ TOwn sg km (u + 1) ∧ ¬ TOwn sg km (u + 1 + 1)) := hid (by have := HLT.out; exact ⟨by rintro (e | e) <;> omega, by rintro (e | e) <;> omega, by rintro (e | e) <;> omega⟩)
  have h0 : FAt w Wl t sb sg kb km u slot gen l (l.set i ⟨false, Nd.zero, c.gen⟩) L (K.goneL L r).2 [] Wl := ⟨H2.out, H3.out, ⟨fun _ => ⟨HA1.out, H4.out⟩, fun h => absurd rfl h⟩, Mod.ofBelow hBl, Nat.le_refl _⟩
  have HH0 := hid h0
  clear h0 kB kB1 hBl hsl hus H2 H3 H4 HB1
  refine wpIn_wide.1 (wpIn_rangeFunc_ownH (n := 8) (gf := 46) (lb := #[.pointer (some ⟨H, 0, none⟩), .pointer (some ⟨H + 1, 0, none⟩)]) rfl (by decide) rfl trivial (enters_of Try.func46 (by kernel_rfl) rfl)
    (below_stops 7 H slot gen Wl HKB.out HKB1.out HA1.out HL.out HK.out) (fun _ _ => trivial) (fun _ _ _ _ _ _ _ _ => trivial) (Below.refl _ _) (fun _ => rfl)
    (fun pre W => FAt w Wl t sb sg kb km u slot gen l (l.set i ⟨false, Nd.zero, c.gen⟩) L (K.goneL L r).2 pre W) (fun _ _ _ => False)
    (fun pre A B row hs hg hr => hs.kept hg HLW.out HUW.out HBl.out.size (fun r e => (hr r e).1)) (fun c => ownFrom_pure _ _) HH0.out
    (fun x a' W => ∃ Bx, Wl.heap.size ≤ Bx ∧ W.heap[Bx]? = some (.cells #[.int .i64 slot, .int .u32 gen] 72 (0, 0)) ∧ a' = { tmps := #[.pointer (some ⟨t, 0, none⟩), .agg #[.int .i64 slot, .int .u32 gen], .pointer (some ⟨u, 0, none⟩), .pointer (some ⟨u + 1, 0, none⟩), .pointer (some ⟨u + 1 + 1, 0, none⟩), .int .i64 0, .pointer (some ⟨Bx, 0, none⟩), .bool false, .pointer (some ⟨t, 0, none⟩), .bool true, .bool false, .bool false, .pointer (some ⟨t, 0, none⟩), .pointer (some ⟨t, 0, none⟩), .pointer (some ⟨t, 0, none⟩), .agg #[.int .i64 slot, .int .u32 gen], .bool true, .bool false, .pointer (some ⟨t, 0, none⟩), .agg #[.int .i64 slot, .int .u32 gen], .func (.func 46) #[] #[.pointer (some ⟨H, 0, none⟩), .pointer (some ⟨H + 1, 0, none⟩)], .agg #[.int .i64 slot, .int .u32 gen], undef, undef, undef, undef, undef, undef, undef, undef], defers := [] })
    (fun x a' _ A B row hs hg hr => by obtain ⟨Bx, h1, h2, h3⟩ := hs; exact ⟨Bx, h1, kept_cells hg hr h2 rfl, h3⟩)
    ?assign ?body ?done ?stop)
  case assign =>
    intro L0 pre x W K hI hK
    gi_wp2_with fail
    refine hK _ _ ((KeepsOthers.alloc _ _).from _) trivial (hI.kept (World.grownBy_alloc W _ none) HLW.out HUW.out HBl.out.size (fun r e => by cases e)) ⟨W.heap.size, hI.sz, heap_new _ _, ?_⟩
    rfl
  case body =>
    rintro L0 pre x a' W hL0 _ hF ⟨Bx, hBx, hX, rfl⟩ hlen
    obtain rfl : pre = [] := List.length_eq_zero_iff.1 (by omega)
    obtain ⟨hT, h4⟩ := hF.ta.1 rfl
    have HF := hid hF
    have HT := hid hT
    have H4 := hid h4
    have HX := hid hX
    have hnb : ¬ TOwn sg km Bx := by have := HLW.out; rintro (e | e) <;> omega
    obtain ⟨hn1, hn2, hn3⟩ := HNE.out
    clear hF hT h4 hX
    gi_wp2_with fail
    refine region_round (by kernel_rfl) (by rintro ⟨_, _, h⟩; exact h) (by kernel_rfl) ?_
    refine reg_seqI 5 (Turn 4 (fun w1 => Mod (TOwn sg km) W w1 ∧ TreeAt w1 t sb sg kb km l L) (fun w1 => Mod (TOwn sg km) W w1 ∧ TreeAt w1 t sb sg kb km (l.set i ⟨false, Nd.zero, c.gen⟩) (K.goneL L r).2)) (by kernel_rfl) (by kernel_rfl) (Turn.start ⟨(Mod.refl (TOwn sg km) W).drew, HT.out.keep ((Below.refl _ _).drew)⟩) ?_
    dsimp only [List.take]
    iterate 4
      refine Seq.calm (a' := ?_) (by decide) ?_ ?_ ?_
      rotate_left
      ·
        intro w1 hw1
        have hM : Mod (TOwn sg km) W w1 := hw1.elim (·.1) (·.1)
        have k2 := cell_of ((hM.block u (lt_of_block HF.out.b2) hn1).trans HF.out.b2) 0
        have x0 := cell_of ((hM.block Bx (lt_of_block HX.out) hnb).trans HX.out) 0
        have x1 := cell_of ((hM.block Bx (lt_of_block HX.out) hnb).trans HX.out) 1
        clear hM hw1
        go_wp2_with (fail)
        first | (refine ⟨?_, id, id⟩; exact rfl) | (refine ⟨?_, fail⟩; exact rfl)
      · kernel_rfl
    refine Seq.turn (a' := ?_) ?_ ?_ ?_
    rotate_left
    ·
      intro w1 hw1
      have HM := hid hw1.1
      have HT1 := hid hw1.2
      clear hw1
      go_wp2_with (go_at_call 38; refine (pfree_at slot gen _ HT1.out HL.out r HR1.out HR2.out).mono ?_; rintro e w2 ⟨rfl, hT2, hX2⟩)
      refine ⟨?_, HM.out.trans hX2 (fun _ _ h => h), hT2⟩
      exact rfl
    · kernel_rfl
    iterate 0
      refine Seq.calm (a' := ?_) (by decide) ?_ ?_ ?_
      rotate_left
      ·
        intro w1 hw1
        have hM : Mod (TOwn sg km) W w1 := hw1.elim (·.1) (·.1)
        have k2 := cell_of ((hM.block u (lt_of_block HF.out.b2) hn1).trans HF.out.b2) 0
        have x0 := cell_of ((hM.block Bx (lt_of_block HX.out) hnb).trans HX.out) 0
        have x1 := cell_of ((hM.block Bx (lt_of_block HX.out) hnb).trans HX.out) 1
        clear hM hw1
        go_wp2_with (fail)
        first | (refine ⟨?_, id, id⟩; exact rfl) | (refine ⟨?_, fail⟩; exact rfl)
      · kernel_rfl
    refine SeqI.nil ?_
    intro D w1 hD hI
    replace hI := hI.done (hD 4 (by omega))
    clear hD
    dsimp only [List.drop]
    obtain ⟨hM1, hT1⟩ := hI
    have h41 := (hM1.block _ (lt_of_block H4.out) hn3).trans H4.out
    have k4 := cell_of h41 0
    have f4 := free_of h41
    have H41 := hid h41
    have HM1 := hid hM1
    have HT1 := hid hT1
    clear h41 hM1 hT1
    go_wp2_with fail
    gi_wp2_with fail
    have hMf : Mod (fun j => TOwn sg km j ∨ j = u + 1 + 1) W (w1.setCell ⟨u + 1 + 1, 0, none⟩ (.int .i64 1)) := Mod.setCell (S := fun j => TOwn sg km j ∨ j = u + 1 + 1) (p := ⟨u + 1 + 1, 0, none⟩) (HM1.out.mono fun _ _ h => .inl h) (.inl (.inr rfl)) _
    have hMs := Mod.setCell (S := (· = u + 1 + 1)) (p := ⟨u + 1 + 1, 0, none⟩) (Mod.refl _ w1) (.inl rfl) (.int .i64 1)
    have hus := HU.out
    have hlt := HLT.out
    have hlw := HLW.out
    have huw := HUW.out
    refine ⟨⟨hMf.size, fun k o hk ho _ => (hMf.block k (lt_of_block ho) (by rintro ((e | e) | e) <;> omega)).trans ho⟩, trivial, ⟨?_, ?_, ⟨fun h => absurd h (by simp), fun _ => ⟨HT1.out.mod hMs (by omega) (by omega) (by omega) (by omega) (by omega), by simpa using heap_set (i := 0) (v := .int .i64 1) H41.out⟩⟩, ?_, Nat.le_trans HF.out.sz hMf.size⟩⟩
    · exact (hMf.block u (lt_of_block HF.out.b2) (fun h => h.elim hn1 (fun e => by omega))).trans HF.out.b2
    · exact (hMf.block (u + 1) (lt_of_block HF.out.b3) (fun h => h.elim hn2 (fun e => by omega))).trans HF.out.b3
    · exact HF.out.mod.trans hMf (fun j hj h => h.elim id (fun e => by omega))
  case done =>
    rintro D ys W hD rfl hF hK
    obtain ⟨hT, h4⟩ := hF.ta.2 (by simp)
    have k4 := cell_of h4 0
    have f4 := free_of h4
    have HF := hid hF
    have HT := hid hT
    have HKK := hid hK
    clear hF hT h4 hK
    go_wp2_with fail
    have hK' := (KeepsOthers.setCell W ⟨u + 1 + 1, 0, none⟩ (.int .i64 1)).same D _ HKK.out rfl
    refine ⟨by simp, .inl ⟨_, _, rfl, run_takeDeferred hK', ?_⟩⟩
    have hc5 := cell_kept (World.cell?_setCell_same' W ⟨u + 1 + 1, 0, none⟩ (.int .i64 1) (by rw [k4]; rfl)) (grownBy_putObj' _ D (.deferred none)) (fun r e => by cases e; exact ⟨_, hK', rfl⟩)
    have hus := HU.out
    have hlt := HLT.out
    have hlw := HLW.out
    have huw := HUW.out
    have hg := grownBy_putObj' (W.setCell ⟨u + 1 + 1, 0, none⟩ (.int .i64 1)) D (.deferred none)
    have hMs := Mod.setCell (S := (· = u + 1 + 1)) (p := ⟨u + 1 + 1, 0, none⟩) (Mod.refl _ W) (.inl rfl) (.int .i64 1)
    have hMd : Mod (fun j => some D = some j) (W.setCell ⟨u + 1 + 1, 0, none⟩ (.int .i64 1)) ((W.setCell ⟨u + 1 + 1, 0, none⟩ (.int .i64 1)).putObj D (.deferred none)) := ⟨hg.os, hg.tape, hg.output, hg.size, fun k hk hn => hg.block k hk (fun e => hn e.symm)⟩
    have hMa : Mod (fun j => j = u + 1 + 1 ∨ j = D) W ((W.setCell ⟨u + 1 + 1, 0, none⟩ (.int .i64 1)).putObj D (.deferred none)) := (hMs.mono fun _ _ h => .inl h).trans hMd (fun j _ e => .inr (by simpa using e.symm))
    refine ⟨.tuple #[.int .i64 1, .int .i64 0], ?_, rfl, HT.out.mod hMa (by omega) (by omega) (by omega) (by omega) (by omega), HF.out.mod.trans hMa (fun j hj e => by omega)⟩
    simp [results, Try.results25, go_sem, hc5]
  case stop =>
    rintro D c pre W hD hp h _
    exact absurd h id
end Go.Proofs.Ytiddojegcbpafaa.T
