/- The table: Remove; calls of a tenant that does not exist; Reserve of a gate whose handle is not good. -/
--DEV
import Derived.Test.YtiddojegcbpafaaTJ
import Derived.Test.YtiddojegcbpafaaTF
--END
namespace Go.Proofs.Ytiddojegcbpafaa.T
set_option maxRecDepth 8000
open Go.ChangeShapes Go.WideShapes Go.ChangeAt Go.RowKit Go.Burg
open Go.Burg.Lk
open Go.Burg.Purse (St Inv)
--STATE
theorem remove1_any {x t sb sg kb km n i u : Nat} {l : Nat → Ten} {ls : List (Cel Nd)} {L : List (RefK × Wd)} {c : Cel Nd} (w : World) (hX : TabAt 82 w x t l) (hT : TreeAt w t sb sg kb km ls L) (hU : w.heap[u]? = some (.cells #[.pointer (some ⟨x, 0, none⟩)] 23 (0, 0)))
    (hx : x ≠ sg ∧ x ≠ km) (hu : u ≠ sg ∧ u ≠ km) (hxt : x ≠ t ∧ x ≠ sb ∧ x ≠ kb) (h2 : n ≤ 16) (hs : (l n).slot = i) (hL : S.Live ls i (l n).agen i c) (hk : c.x.kids.n = 0) (hp : c.x.planted = true) (r : RefK) (hr1 : r.1.1 = i) (hr2 : r.1.2 = (l n).agen) :
    Calls Try.prog 24 #[.pointer (some ⟨x, 1 + n * 4, none⟩), .pointer (some ⟨u, 0, none⟩)] w fun e w' => e = .returned (.tuple #[]) ∧ TabAt 82 w' x t (upd l n ⟨(l n).gen, 0, 0, none⟩) ∧ TreeAt w' t sb sg kb km (ls.set i ⟨false, Nd.zero, c.gen⟩) (K.goneL L r).2 ∧ Mod (COwn x sg km) w w' := by
  have hn17 : n < 17 := by omega
  have HX := hid hX
  have HT := hid hT
  have HU := hid hU
  have HS := hid hs
  have HL := hid hL
  have HK := hid hk
  have HPL := hid hp
  have HR1 := hid hr1
  have HR2 := hid hr2
  have HNX : Hid (¬ TOwn sg km x) := hid (fun e => e.elim hx.1 hx.2)
  have HNU : Hid (¬ TOwn sg km u) := hid (fun e => e.elim hu.1 hu.2)
  clear hX hT hU hs hL hk hp hr1 hr2
  go_enter Try.func24, Try.ntmps24
  go_wp2_with fail
  refine wp_region_seqI 10 (Turn 9 (fun w1 => Mod (TOwn sg km) w w1 ∧ TreeAt w1 t sb sg kb km ls L) (fun w1 => Mod (TOwn sg km) w w1 ∧ TreeAt w1 t sb sg kb km (ls.set i ⟨false, Nd.zero, c.gen⟩) (K.goneL L r).2)) (by kernel_rfl) (by kernel_rfl) (by kernel_rfl) (Turn.start ⟨(Mod.refl (TOwn sg km) w).drew, HT.out.keep ((Below.refl _ _).drew)⟩) ?_
  dsimp only [List.take]
  iterate 9
    refine Seq.calm (a' := ?_) (by decide) ?_ ?_ ?_
    rotate_left
    ·
      intro w1 hw1
      have hM : Mod (TOwn sg km) w w1 := hw1.elim (·.1) (·.1)
      have hX1 := (HX.out.mod hM HNX.out)
      have hU1 := (hM.block u (lt_of_block HU.out) HNU.out).trans HU.out
      have u0 := cell_of hU1 0
      obtain ⟨z0, zf⟩ := hX1.head
      obtain ⟨c0, c1, c2, c3⟩ := hX1.cell hn17
      rw [HS.out] at c1
      clear c0 c3 hM hX1 hU1 hw1
      go_wp2_with (fail)
      first | (refine ⟨?_, id, id⟩; exact rfl) | (refine ⟨?_, fail⟩; exact rfl)
    · kernel_rfl
  refine Seq.turn (a' := ?_) ?_ ?_ ?_
  rotate_left
  ·
    intro w1 hw1
    have HM := hid hw1.1
    have HT1 := hid hw1.2
    clear hw1
    go_wp2_with (go_at_call 25; refine (fell_at _ _ _ HT1.out HL.out HK.out HPL.out r HR1.out HR2.out).mono ?_; rintro e w2 ⟨rfl, hT2, hX2⟩)
    refine ⟨?_, HM.out.trans hX2 (fun _ _ h => h), hT2⟩
    exact rfl
  · kernel_rfl
  iterate 0
    refine Seq.calm (a' := ?_) (by decide) ?_ ?_ ?_
    rotate_left
    ·
      intro w1 hw1
      have hM : Mod (TOwn sg km) w w1 := hw1.elim (·.1) (·.1)
      have hX1 := (HX.out.mod hM HNX.out)
      have hU1 := (hM.block u (lt_of_block HU.out) HNU.out).trans HU.out
      have u0 := cell_of hU1 0
      obtain ⟨z0, zf⟩ := hX1.head
      obtain ⟨c0, c1, c2, c3⟩ := hX1.cell hn17
      rw [HS.out] at c1
      clear c0 c3 hM hX1 hU1 hw1
      go_wp2_with (fail)
      first | (refine ⟨?_, id, id⟩; exact rfl) | (refine ⟨?_, fail⟩; exact rfl)
    · kernel_rfl
  refine SeqI.nil ?_
  intro D w1 hD hI
  replace hI := hI.done (hD 9 (by omega))
  clear hD
  dsimp only [List.drop]
  obtain ⟨hM1, hT1⟩ := hI
  have hX1 := HX.out.mod hM1 HNX.out
  obtain ⟨z0, zf⟩ := hX1.head
  obtain ⟨c0, c1, c2, c3⟩ := hX1.cell hn17
  have HPUT := hid (hX1.put hn17 ⟨(l n).gen, 0, 0, none⟩)
  have HM1 := hid hM1
  have HT1 := hid hT1
  clear hM1 hT1 hX1 z0
  go_wp2
  go_end0
  have hMs := Mod.setCell (S := (· = x)) (p := ⟨x, 1 + n * 4 + 3, none⟩) (Mod.setCell (S := (· = x)) (p := ⟨x, 1 + n * 4 + 2, none⟩) (Mod.setCell (S := (· = x)) (p := ⟨x, 1 + n * 4 + 1, none⟩) (Mod.setCell (S := (· = x)) (p := ⟨x, 1 + n * 4, none⟩) (Mod.refl _ w1) (.inl rfl) (.int .u32 (l n).gen)) (.inl rfl) (.int .i64 0)) (.inl rfl) (.int .u32 0)) (.inl rfl) (.pointer none)
  exact ⟨rfl, HPUT.out, HT1.out.mod hMs (fun e => hxt.1 e.symm) (fun e => hxt.2.1 e.symm) (fun e => hx.1 e.symm) (fun e => hxt.2.2 e.symm) (fun e => hx.2 e.symm), (HM1.out.mono fun _ _ h => .inr h).trans hMs (fun _ _ h => .inl h)⟩

theorem remove_at {x t sb sg kb km n i p : Nat} {l : Nat → Ten} {ls : List (Cel Nd)} {L : List (RefK × Wd)} {c : Cel Nd} (w : World) (hX : TabAt 82 w x t l) (hT : TreeAt w t sb sg kb km ls L)
    (hx : x ≠ t ∧ x ≠ sb ∧ x ≠ sg ∧ x ≠ kb ∧ x ≠ km) (h1 : 1 ≤ n) (h2 : n ≤ 16) (hp : (l n).purse = some p) (hs : (l n).slot = i) (hL : S.Live ls i (l n).agen i c) (hk : c.x.kids.n = 0) (hpl : c.x.planted = true) (r : RefK) (hr1 : r.1.1 = i) (hr2 : r.1.2 = (l n).agen) :
    Calls Try.prog 11 #[.pointer (some ⟨x, 0, none⟩), .int .i64 n] w fun e w' => e = .returned (.int .i64 0) ∧ TabAt 82 w' x t (upd l n ⟨(l n).gen, 0, 0, none⟩) ∧ TreeAt w' t sb sg kb km (ls.set i ⟨false, Nd.zero, c.gen⟩) (K.goneL L r).2 ∧ Mod (COwn x sg km) w w' := by
  have hU := heap_new w (.cells #[.pointer (some ⟨x, 0, none⟩)] 23 (0, 0))
  have hsz : w.heap.size ≠ sg ∧ w.heap.size ≠ km := by have := hT.hs.glt; have := hT.hk.lt.2; omega
  have hB : Below w.heap.size w (w.alloc (.cells #[.pointer (some ⟨x, 0, none⟩)] 23 (0, 0))) := (Below.refl _ _).alloc (Nat.le_refl _) _
  have HI := hid (remove1_any _ (hX.alloc (.cells #[.pointer (some ⟨x, 0, none⟩)] 23 (0, 0))) (hT.alloc (.cells #[.pointer (some ⟨x, 0, none⟩)] 23 (0, 0))) hU ⟨hx.2.2.1, hx.2.2.2.2⟩ hsz ⟨hx.1, hx.2.1, hx.2.2.2.1⟩ h2 hs hL hk hpl r hr1 hr2)
  have HO : Hid (Calls Try.prog 17 #[.pointer (some ⟨x, 0, none⟩), .int .i64 n, .func (.func 24) #[] #[.pointer (some ⟨w.heap.size, 0, none⟩)]] (w.alloc (.cells #[.pointer (some ⟨x, 0, none⟩)] 23 (0, 0))) fun e w' => e = .returned (.int .i64 0) ∧ TabAt 82 w' x t (upd l n ⟨(l n).gen, 0, 0, none⟩) ∧ TreeAt w' t sb sg kb km (ls.set i ⟨false, Nd.zero, c.gen⟩) (K.goneL L r).2 ∧ Mod (COwn x sg km) (w.alloc (.cells #[.pointer (some ⟨x, 0, none⟩)] 23 (0, 0))) w') := by
    have h := hX.alloc (.cells #[.pointer (some ⟨x, 0, none⟩)] 23 (0, 0))
    generalize w.alloc (.cells #[.pointer (some ⟨x, 0, none⟩)] 23 (0, 0)) = w at *
    clear hX hT hL hs hU hB
    refine hid ?_
    have HT := hid (there_at w h)
    obtain ⟨_, cf⟩ := h.head
    obtain ⟨c0, c1, c2, c3⟩ := h.cell (show n < 17 by omega)
    rw [hp] at c3
    simp only [Option.map_some] at c3
    clear c0 c1 c2 hp
    have g1 : decide ((n : Int) < 1) = false := by simp; omega
    have g2 : decide ((n : Int) > 16) = false := by simp; omega
    go_enter Try.func17, Try.ntmps17
    go_wp2_with (first | (go_at_call 32; refine HT.out.mono ?_; rintro e w2 ⟨rfl, rfl⟩) | (go_at_call 24; refine HI.out.mono ?_; rintro e w2 ⟨rfl, hC, hT, hM⟩))
    go_ret
    exact ⟨rfl, hC, hT, hM⟩
  have hu0 := cell_of hU 0
  have HB := hid hB
  clear hp hX hT hL hs HI hU hB
  go_enter Try.func11, Try.ntmps11
  go_wp2_with (go_at_call 17; refine HO.out.mono ?_; rintro e w2 ⟨rfl, hC, hT, hM⟩)
  go_ret
  exact ⟨rfl, hC, hT, (Mod.ofBelow HB.out).trans hM (fun _ _ h => h)⟩

theorem remove_none {x t n : Nat} {l : Nat → Ten} (w : World) (hX : TabAt 82 w x t l) (h1 : 1 ≤ n) (h2 : n ≤ 16) (hp : (l n).purse = none) :
    Calls Try.prog 11 #[.pointer (some ⟨x, 0, none⟩), .int .i64 n] w fun e w' => e = .returned (.int .i64 5) ∧ Below w.heap.size w w' := by
  have hu0 := cell_of (heap_new w (.cells #[.pointer (some ⟨x, 0, none⟩)] 23 (0, 0))) 0
  have HO := hid (fun f => of_none f _ (hX.alloc (.cells #[.pointer (some ⟨x, 0, none⟩)] 23 (0, 0))) h1 h2 hp)
  clear hX hp
  go_enter Try.func11, Try.ntmps11
  go_wp2_with (go_at_call 17; refine (HO.out _).mono ?_; rintro e w2 ⟨rfl, rfl⟩)
  go_ret
  exact ⟨rfl, (Below.refl _ _).alloc (Nat.le_refl _) _⟩

theorem revoke_none {x t n : Nat} {l : Nat → Ten} (w : World) (hX : TabAt 82 w x t l) (h1 : 1 ≤ n) (h2 : n ≤ 16) (hp : (l n).purse = none) :
    Calls Try.prog 12 #[.pointer (some ⟨x, 0, none⟩), .int .i64 n] w fun e w' => e = .returned (.int .i64 5) ∧ w = w' := by
  have HO := hid (fun f => of_none f _ hX h1 h2 hp)
  clear hX hp
  go_enter Try.func12, Try.ntmps12
  go_wp2_with (go_at_call 17; refine (HO.out _).mono ?_; rintro e w2 ⟨rfl, rfl⟩)
  go_ret
  exact ⟨rfl, rfl⟩

theorem issue_none {x t n : Nat} {l : Nat → Ten} (r : Int) (w : World) (h : TabAt 82 w x t l) (h1 : 1 ≤ n) (h2 : n ≤ 16) (hp : (l n).purse = none) (hr1 : 1 ≤ r) (hr2 : r ≤ 7) :
    Calls Try.prog 7 #[.pointer (some ⟨x, 0, none⟩), .int .i64 n, .int .u8 r] w fun e w' => e = .returned (.tuple #[.agg #[.int .i64 0, .int .u32 0, .int .u8 0], .int .i64 5]) ∧ Below w.heap.size w w' := by
  have k1 := heap_new w (.cells #[.int .i64 n] 3 (0, 0))
  have k2 := heap_new (w.alloc (.cells #[.int .i64 n] 3 (0, 0))) (.cells #[.int .u8 r] 33 (0, 0))
  have k3 := heap_new ((w.alloc (.cells #[.int .i64 n] 3 (0, 0))).alloc (.cells #[.int .u8 r] 33 (0, 0))) (.cells #[.int .i64 0, .int .u32 0, .int .u8 0] 35 (0, 0))
  rw [show (w.alloc (.cells #[.int .i64 n] 3 (0, 0))).heap.size = w.heap.size + 1 by simp] at k2
  rw [show ((w.alloc (.cells #[.int .i64 n] 3 (0, 0))).alloc (.cells #[.int .u8 r] 33 (0, 0))).heap.size = w.heap.size + 1 + 1 by simp] at k3
  have j1 := blk_alloc (o' := (.cells #[.int .i64 0, .int .u32 0, .int .u8 0] 35 (0, 0))) (blk_alloc (o' := (.cells #[.int .u8 r] 33 (0, 0))) k1)
  have j2 := blk_alloc (o' := (.cells #[.int .i64 0, .int .u32 0, .int .u8 0] 35 (0, 0))) k2
  have n0 := cell_of j1 0
  have b0 := cell_of j2 0
  have q0 := cell_of k3 0
  have q1 := cell_of k3 1
  have q2 := cell_of k3 2
  have qf := free_of k3
  have hA := ((h.alloc (.cells #[.int .i64 n] 3 (0, 0))).alloc (.cells #[.int .u8 r] 33 (0, 0))).alloc (.cells #[.int .i64 0, .int .u32 0, .int .u8 0] 35 (0, 0))
  have HO := hid (fun f => of_none f _ hA h1 h2 hp)
  have hb0 : Hid (Below w.heap.size w (((w.alloc (.cells #[.int .i64 n] 3 (0, 0))).alloc (.cells #[.int .u8 r] 33 (0, 0))).alloc (.cells #[.int .i64 0, .int .u32 0, .int .u8 0] 35 (0, 0)))) := hid ((((Below.refl _ _).alloc (Nat.le_refl _) _).alloc (by simp) _).alloc (by simp; omega) _)
  have g1 : decide (r < 1) = false := by simp; omega
  have g2 : decide (r > 7) = false := by simp; omega
  clear h hA hp k1 k2 k3 j1 j2
  go_enter Try.func7, Try.ntmps7
  go_wp2_with (go_at_call 17; refine (HO.out _).mono ?_; rintro e w2 ⟨rfl, rfl⟩)
  refine bodyPost_ret (v := .tuple #[.agg #[_, _, _], _]) (by simp [results, Try.results7, go_sem, q0, q1, q2]) rfl ⟨rfl, ?_⟩
  have hB := hb0.out
  (repeat (first | exact Below.refl _ _ | assumption | with_reducible refine Below.drew ?_ | with_reducible refine below_drewN ?_ | with_reducible refine Below.setCell ?_ (by first | (simp; done) | (simp; omega)) _ | with_reducible refine Below.alloc ?_ (by first | exact Nat.le_refl _ | (simp; done) | (simp; omega)) _))

theorem gReserve_bad {gb t : Nat} {l : Nat → Ten} {g : Gt} (k y : Int) (w : World) (h : w.heap[gb]? = some (GBlk g)) (hT : TabAt 82 w g.x t l) (hgp : g.p = none) (hm : mayI l g.tn g.gn g.rt g.d = 11) :
    Calls Try.prog 91 #[.pointer (some ⟨gb, 0, none⟩), .agg #[.int .i64 k, .int .i64 y]] w fun e w' => e = .returned (.int .i64 11) ∧ Below w.heap.size w w' := by
  obtain ⟨gx, tn, gn, rt, d, gp, tk, l0, l1⟩ := g
  simp only at hT hgp hm
  subst hgp
  have hG := blk_alloc (o' := (.cells #[.int .i64 k, .int .i64 y] 51 (0, 0))) h
  have HR := hid (gRefund_no _ hG rfl)
  have hTa := hT.alloc (.cells #[.int .i64 k, .int .i64 y] 51 (0, 0))
  have hB : Below w.heap.size w (w.alloc (.cells #[.int .i64 k, .int .i64 y] 51 (0, 0))) := (Below.refl _ _).alloc (Nat.le_refl _) _
  clear h hT
  go_enter Try.func91, Try.ntmps91
  go_wp2_with (go_at_call 90; refine HR.out.mono ?_; rintro e wa ⟨rfl, rfl⟩)
  generalize w.alloc (.cells #[.int .i64 k, .int .i64 y] 51 (0, 0)) = W at *
  have HG := hid hG
  have HB := hid hB
  have HY := hid (fun (w1 : World) (hw1 : Below W.heap.size W w1) => May_at tn gn rt d w1 (hTa.keep hw1))
  rw [hm] at HY
  clear hm hG hTa hB HR
  refine wp_region_seq 14 (fun w1 => Below (W).heap.size (W) w1) (by kernel_rfl) (by kernel_rfl) (by kernel_rfl) ⟨rfl, rfl, rfl, Nat.le_refl _, fun _ _ => rfl⟩ ?_
  dsimp only [List.take]
  iterate 14
    refine Seq.cons (a' := ?_) ?_ ?_ ?_
    rotate_left
    ·
      intro w1 hw1
      have hG1 := blk_below HG.out hw1 (lt_of_block HG.out)
      obtain ⟨c0, c1, c2, c3, c4, c5, c6, c7, c8, cf⟩ := gfacts hG1
      simp only [Option.map_none] at c0 c1 c2 c3 c4 c5 c6 c7 c8
      clear hG1
      go_wp2_with (go_at_call 14; refine (HY.out _ hw1).mono ?_; rintro e w' ⟨rfl, hb⟩)
      refine ⟨?_, by first | assumption | (simpa using below_chain hw1 hb hw1.size)⟩
      exact rfl
    · kernel_rfl
  refine SeqI.nil ?_
  intro _ w1 _ hw1
  dsimp only [List.drop]
  go_wp2
  go_ret
  exact ⟨rfl, HB.out.trans (hw1.mono HB.out.size)⟩
end Go.Proofs.Ytiddojegcbpafaa.T
