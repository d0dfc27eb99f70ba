/- Part 35 of 51 of a proof: lemmas on the functions that it reaches. -/
import Derived.Test.YtnngicopphiaaaaGreatDoorC25
namespace Go.Proofs.YtnngicopphiaaaaGreatDoor.T
set_option maxRecDepth 8000
open Go.ChangeShapes Go.WideShapes Go.ChangeAt Go.RowKit Go.Burg
open Go.Burg.Lk
structure TakeMid (W : World) (sb sg k : Nat) (l' : List (Cel Nd)) (gen : Int) (w3 : World) (u : Nat) : Prop where
  m : Mod (· = sg) W w3
  s : SlabN 124 106 w3 sb sg l'
  u : w3.heap[u]? = some (.cells #[.int .i64 k, .int .u32 gen] 30 (0, 0))
theorem midA {W w2 : World} {sb sg k : Nat} {l' : List (Cel Nd)} {c : Cel Nd} (hM : Mod (· = sg) W w2) (hs : SlabN 124 106 w2 sb sg l') : TakeMid W sb sg k l' (c.gen + 1) (w2.alloc (.cells #[.int .i64 k, .int .u32 (c.gen + 1)] 30 (0, 0))) w2.heap.size :=
  ⟨hM.alloc _, hs.alloc _, heap_new _ _⟩
theorem midB {W w2 : World} {sb sg k : Nat} {l' : List (Cel Nd)} {c : Cel Nd} (hM : Mod (· = sg) W w2) (hs : SlabN 124 106 w2 sb sg l') (z : w2.heap[W.heap.size]? = some (.cells #[.int .i64 0, .int .u32 0] 30 (0, 0))) (hne : W.heap.size ≠ sg) : TakeMid W sb sg k l' (c.gen + 1) ((w2.setCell ⟨W.heap.size, 0, none⟩ (.int .i64 k)).setCell ⟨W.heap.size, 1, none⟩ (.int .u32 (c.gen + 1))) W.heap.size := by
  have h1 : sb ≠ W.heap.size := fun e => by have := hs.hb; rw [e, z] at this; simp at this
  have e : ∀ (w : World) (j : Nat) (v : Value) (b : Nat), b ≠ W.heap.size → (w.setCell ⟨W.heap.size, j, none⟩ v).heap[b]? = w.heap[b]? := fun w j v b h => Below.heap_setCell _ _ _ _ (by simpa using h)
  refine ⟨(hM.setCell (p := ⟨W.heap.size, 0, none⟩) (.inr (Nat.le_refl _)) _).setCell (p := ⟨W.heap.size, 1, none⟩) (.inr (Nat.le_refl _)) _, hs.same ((e _ _ _ _ h1).trans (e _ _ _ _ h1)) ((e _ _ _ _ hne.symm).trans (e _ _ _ _ hne.symm)), ?_⟩
  exact set_at (set_at (cs' := #[.int .i64 k, .int .u32 0]) z rfl) rfl
set_option maxHeartbeats 4000000 in
theorem take_at {t sb sg kb km k : Nat} {l : List (Cel Nd)} {L : List (RefK × Wd)} {tk : Int} {c : Cel Nd} (k0 : Int) (cd vl pt : ByteArray) (ya za : Option Addr) (yn yc zn zc : Nat) (pl : Bool) (w : World) (h : TreeAt w t sb sg kb km l L tk)
    (hF : First l (k : Int)) (hk : l[k]? = some c) (hr : c.room = true) (r : RefK) (hr1 : r.1.1 = k) (hr2 : r.1.2 = c.gen + 1) :
    Calls Tryz.prog 24 #[.pointer (some ⟨t, 0, none⟩), .agg #[.int .i64 k0, .string cd, .string vl, .string pt, .slice ya yn yc, .slice za zn zc], .bool pl] w fun e w' => e = .returned (.tuple #[.agg #[.int .i64 k, .int .u32 (c.gen + 1)], .int .i64 0]) ∧ TreeAt w' t sb sg kb km (l.set k ⟨true, (⟨k0, cd, vl, pt, ⟨ya, yn, yc⟩, ⟨za, zn, zc⟩, pl, false⟩ : Nd), c.gen + 1⟩) (K.addL L r).2 tk ∧ Mod (TOwn sg km) w w' := by
  have hs1 : (w.alloc (.cells #[.int .i64 k0, .string cd, .string vl, .string pt, .slice ya yn yc, .slice za zn zc] 53 (0, 0))).heap.size = w.heap.size + 1 := by simp
  have hN := heap_new (w.alloc (.cells #[.int .i64 k0, .string cd, .string vl, .string pt, .slice ya yn yc, .slice za zn zc] 53 (0, 0))) (.cells #[.int .i64 0, .int .u32 0] 30 (0, 0))
  rw [hs1] at hN
  have hX := blk_alloc (o' := (.cells #[.int .i64 0, .int .u32 0] 30 (0, 0))) (heap_new w (.cells #[.int .i64 k0, .string cd, .string vl, .string pt, .slice ya yn yc, .slice za zn zc] 53 (0, 0)))
  have hA := (h.alloc (.cells #[.int .i64 k0, .string cd, .string vl, .string pt, .slice ya yn yc, .slice za zn zc] 53 (0, 0))).alloc (.cells #[.int .i64 0, .int .u32 0] 30 (0, 0))
  have hB : Below w.heap.size w ((w.alloc (.cells #[.int .i64 k0, .string cd, .string vl, .string pt, .slice ya yn yc, .slice za zn zc] 53 (0, 0))).alloc (.cells #[.int .i64 0, .int .u32 0] 30 (0, 0))) := ((Below.refl _ _).alloc (Nat.le_refl _) _).alloc (by simp) _
  have hsz : ((w.alloc (.cells #[.int .i64 k0, .string cd, .string vl, .string pt, .slice ya yn yc, .slice za zn zc] 53 (0, 0))).alloc (.cells #[.int .i64 0, .int .u32 0] 30 (0, 0))).heap.size = w.heap.size + 1 + 1 := by simp
  have h0 := hid h
  clear h hs1
  generalize hW : (w.alloc (.cells #[.int .i64 k0, .string cd, .string vl, .string pt, .slice ya yn yc, .slice za zn zc] 53 (0, 0))).alloc (.cells #[.int .i64 0, .int .u32 0] 30 (0, 0)) = W at *
  have HW := hid hW
  have HF := hid hF
  have HK := hid hk
  have HR := hid hr
  have HR1 := hid hr1
  have HR2 := hid hr2
  have HA := hid hA
  have HN := hid hN
  have HX := hid hX
  have HB := hid hB
  have HSZ := hid hsz
  clear hW hF hk hr hr1 hr2 hA hN hX hB hsz
  go_enter Tryz.func24, Tryz.ntmps24
  go_wp2_with fail
  rw [HW.out]
  have c0 := cell_of HA.out.ht 0
  have x0 := cell_of HX.out 0
  have x1 := cell_of HX.out 1
  have x2 := cell_of HX.out 2
  have x3 := cell_of HX.out 3
  have x4 := cell_of HX.out 4
  have x5 := cell_of HX.out 5
  have l0 := lt_of_block HX.out
  have l1 := lt_of_block HA.out.ht
  have l2 := lt_of_block HN.out
  have hne : W.heap.size ≠ sg := by have := HA.out.hs.glt; omega
  have HT := hid (fun (w1 : World) (hw1 : Below W.heap.size W w1) => S.take_yes k0 cd vl pt ya za yn yc zn zc pl false w1 (HA.out.keep hw1).hs HF.out HK.out HR.out)
  go_region_with (go_at_call 55; refine (HT.out _ (by (repeat (first | exact Below.refl _ _ | assumption | with_reducible refine Below.drew ?_ | with_reducible refine below_drewN ?_ | with_reducible refine Below.setCell ?_ (by first | (simp; done) | (simp; omega)) _ | with_reducible refine Below.alloc ?_ (by first | exact Nat.le_refl _ | (simp; done) | (simp; omega)) _)))).mono ?_; rintro e w2 ⟨rfl, hS, hM⟩; (try (have z : w2.heap[W.heap.size]? = some (.cells #[.int .i64 0, .int .u32 0] 30 (0, 0)) := (hM.block W.heap.size (by simp) hne).trans (heap_new W (.cells #[.int .i64 0, .int .u32 0] 30 (0, 0))); have z0 := cell_of z 0; have z1 := cell_of z 1; have zf := free_of z)); have HS := hid hS; have HM := hid hM; clear hS hM)
  all_goals go_wp2_with fail
  all_goals have hM2 : Mod (· = sg) W w2 := (Mod.ofBelow (by (repeat (first | exact Below.refl _ _ | assumption | with_reducible refine Below.drew ?_ | with_reducible refine below_drewN ?_ | with_reducible refine Below.setCell ?_ (by first | (simp; done) | (simp; omega)) _ | with_reducible refine Below.alloc ?_ (by first | exact Nat.le_refl _ | (simp; done) | (simp; omega)) _)))).trans HM.out (fun _ _ h => h)
  all_goals first | (have hmid := midB (c := c) (k := k) hM2 HS.out z hne; generalize hE : ((w2.setCell ⟨W.heap.size, 0, none⟩ (.int .i64 k)).setCell ⟨W.heap.size, 1, none⟩ (.int .u32 (c.gen + 1))) = w3 at hmid ⊢; generalize hEu : W.heap.size = u at hmid ⊢) | (have hmid := midA (c := c) (k := k) hM2 HS.out; generalize hE : (w2.alloc (.cells #[.int .i64 k, .int .u32 (c.gen + 1)] 30 (0, 0))) = w3 at hmid ⊢; generalize hEu : w2.heap.size = u at hmid ⊢)
  all_goals have hle : W.heap.size ≤ u := by have := hM2.size; omega
  all_goals
    have hnes := HA.out.ne
    have hsz := HSZ.out
    try clear z z0 z1 zf
    clear hE hEu hM2 HS HM HT c0 x0 x1 x2 x3 x4 x5
    obtain ⟨hm, hs, hu⟩ := hmid
    have HT3 := hid ((hm.block t l1 hnes.1).trans HA.out.ht)
    have HK3 := hid (HA.out.hk.mod hm hnes.2.2.2.2.1 (fun e => hnes.2.2.2.2.2.2 e.symm))
    have HN3 := hid ((hm.block (w.heap.size + 1) l2 (by have := h0.out.hs.glt; omega)).trans HN.out)
    have HU := hid hu
    have HS3 := hid hs
    have HM3 := hid hm
    have hkm : km < W.heap.size := HA.out.hk.lt.2
    have hulen := lt_of_block hu
    have hn1 : u ≠ km := by omega
    have hn2 : t ≠ km := hnes.2.1
    have hn3 : kb ≠ km := hnes.2.2.2.2.2.1
    have hn4 : w.heap.size + 1 ≠ km := by have := h0.out.hk.lt.2; omega
    clear hm hs hu hnes
    refine wp_region_seqI 6 (Turn 5 (fun w1 => Mod (· = km) w3 w1 ∧ MapOf refV K.wV w1 km L) (fun w1 => Mod (· = km) w3 w1 ∧ MapOf refV K.wV w1 km (K.addL L r).2)) (by kernel_rfl) (by kernel_rfl) (by kernel_rfl) (Turn.start ⟨(Mod.refl (· = km) w3).drew, HK3.out.2.same rfl⟩) ?_
    dsimp only [List.take]
    iterate 5
      refine Seq.calm (a' := ?_) (by decide) ?_ ?_ ?_
      rotate_left
      ·
        intro w1 hw1
        have hM : Mod (· = km) w3 w1 := hw1.elim (·.1) (·.1)
        have ht4 := (hM.block t (lt_of_block HT3.out) hn2).trans HT3.out
        have hu4 := (hM.block u hulen hn1).trans HU.out
        have u0 := cell_of hu4 0
        have u1 := cell_of hu4 1
        have t1 := cell_of ht4 1
        clear hM ht4 hu4 hw1
        go_wp2_with (fail)
        first | (refine ⟨?_, id, id⟩; exact rfl) | (refine ⟨?_, fail⟩; exact rfl)
      · kernel_rfl
    refine Seq.turn (a' := ?_) ?_ ?_ ?_
    rotate_left
    ·
      intro w1 hw1
      have hL : K.LocksAt w1 kb km L tk := ⟨(hw1.1.block kb HK3.out.lt.1 hn3).trans HK3.out.1, hw1.2⟩
      have HAD := K.add_at hL r
      rw [HR1.out, HR2.out] at HAD
      have HAD := hid HAD
      have HM := hid hw1.1
      clear hw1 hL
      go_wp2_with (go_at_call 56; refine HAD.out.mono ?_; rintro e w2 ⟨rfl, hP, hX⟩)
      refine ⟨?_, HM.out.trans hX (fun _ _ h => h), hP⟩
      exact rfl
    · kernel_rfl
    iterate 0
      refine Seq.calm (a' := ?_) (by decide) ?_ ?_ ?_
      rotate_left
      ·
        intro w1 hw1
        have hM : Mod (· = km) w3 w1 := hw1.elim (·.1) (·.1)
        have ht4 := (hM.block t (lt_of_block HT3.out) hn2).trans HT3.out
        have hu4 := (hM.block u hulen hn1).trans HU.out
        have u0 := cell_of hu4 0
        have u1 := cell_of hu4 1
        have t1 := cell_of ht4 1
        clear hM ht4 hu4 hw1
        go_wp2_with (fail)
        first | (refine ⟨?_, id, id⟩; exact rfl) | (refine ⟨?_, fail⟩; exact rfl)
      · kernel_rfl
    refine SeqI.nil ?_
    intro D w1 hD hI
    replace hI := hI.done (hD 5 (by omega))
    clear hD
    dsimp only [List.drop]
    obtain ⟨hM4, hP4⟩ := hI
    have HU4 := (hM4.block u hulen hn1).trans HU.out
    have HN4 := (hM4.block (w.heap.size + 1) (lt_of_block HN3.out) hn4).trans HN3.out
    have u0 := cell_of HU4 0
    have u1 := cell_of HU4 1
    have n0 := cell_of HN4 0
    have n1 := cell_of HN4 1
    have nf := free_of HN4
    clear HU4 HN4
    have HM4 := hid hM4
    have HP4 := hid hP4
    clear hM4 hP4
    go_wp2_with fail
    refine bodyPost_ret (v := .tuple #[.agg #[_, _], _]) (by simp [results, Tryz.results24, go_sem, n0, n1]) rfl ⟨rfl, ?_⟩
    have hn := HA.out.ne
    have hM4 := HM4.out
    have hT1 : TreeAt w1 t sb sg kb km (l.set k ⟨true, (⟨k0, cd, vl, pt, ⟨ya, yn, yc⟩, ⟨za, zn, zc⟩, pl, false⟩ : Nd), c.gen + 1⟩) (K.addL L r).2 tk := ⟨(hM4.block t (lt_of_block HT3.out) hn2).trans HT3.out, HS3.out.mod hM4 hn.2.2.1 hn.2.2.2.2.2.2, (hM4.block kb HK3.out.lt.1 hn3).trans HK3.out.1, HP4.out⟩
    have g1 := lt_of_block h0.out.ht
    have g2 := h0.out.hs.blt
    have g3 := h0.out.hs.glt
    have g4 := h0.out.hk.lt
    have hX := Mod.setCell (S := (· = w.heap.size + 1)) (p := ⟨w.heap.size + 1, 1, none⟩) (Mod.setCell (S := (· = w.heap.size + 1)) (p := ⟨w.heap.size + 1, 0, none⟩) (Mod.refl _ w1) (.inl rfl) (.int .i64 k)) (.inl rfl) (.int .u32 (c.gen + 1))
    have hM0 : Mod (TOwn sg km) w w1 := ((Mod.ofBelow (S := TOwn sg km) HB.out).trans HM3.out (fun _ _ h => .inl h)).trans hM4 (fun _ _ h => .inr h)
    exact ⟨hT1.mod hX (by omega) (by omega) (by omega) (by omega) (by omega), hM0.trans hX (fun i hi h => by omega)⟩
end Go.Proofs.YtnngicopphiaaaaGreatDoor.T

namespace Go.Proofs.YtnngicopphiaaaaGreatDoor.T
set_option maxRecDepth 8000
open Go.ChangeShapes Go.WideShapes Go.ChangeAt Go.RowKit Go.Burg
open Go.Burg.Lk
def anchorN : Nd := ⟨5, ⟨#[]⟩, ⟨#[]⟩, ⟨#[]⟩, ⟨none, 0, 0⟩, ⟨none, 0, 0⟩, true, false⟩
theorem plant_at {t sb sg kb km k : Nat} {l : List (Cel Nd)} {L : List (RefK × Wd)} {tk : Int} {c : Cel Nd} (w : World) (h : TreeAt w t sb sg kb km l L tk)
    (hF : First l (k : Int)) (hk : l[k]? = some c) (hr : c.room = true) (r : RefK) (hr1 : r.1.1 = k) (hr2 : r.1.2 = c.gen + 1) :
    Calls Tryz.prog 6 #[.pointer (some ⟨t, 0, none⟩)] w fun e w' => e = .returned (.tuple #[.agg #[.int .i64 k, .int .u32 (c.gen + 1)], .int .i64 0]) ∧ TreeAt w' t sb sg kb km (l.set k ⟨true, anchorN, c.gen + 1⟩) (K.addL L r).2 tk ∧ Mod (TOwn sg km) w w' := by
  have hA := h.alloc (.cells #[.int .i64 0, .int .u32 0] 30 (0, 0))
  have hN := heap_new w (.cells #[.int .i64 0, .int .u32 0] 30 (0, 0))
  have hM := hid (tmade_at _ hA.ht)
  have hT := hid (take_at 5 ⟨#[]⟩ ⟨#[]⟩ ⟨#[]⟩ none none 0 0 0 0 true _ hA hF hk hr r hr1 hr2)
  have h0 := hid h
  have HN := hid hN
  clear h hA hF hk hr hr1 hr2 hN
  have hno : ¬ TOwn sg km w.heap.size := fun e => by have := h0.out.hs.glt; have := h0.out.hk.lt; rcases e with e | e <;> omega
  go_enter Tryz.func6, Tryz.ntmps6
  go_wp2_with (first | (go_at_call 23; refine hM.out.mono ?_; rintro e w2 ⟨rfl, rfl⟩) | (go_at_call 24; refine hT.out.mono ?_; rintro e w2 ⟨rfl, hT2, hM2⟩; have hn := (hM2.block w.heap.size (by simp) hno).trans HN.out; have n0 := cell_of hn 0; have n1 := cell_of hn 1; have nf := free_of hn; clear hn))
  refine bodyPost_ret (v := .tuple #[.agg #[_, _], _]) (by simp [results, Tryz.results6, go_sem, n0, n1]) rfl ⟨rfl, ?_⟩
  have g1 := lt_of_block h0.out.ht
  have g2 := h0.out.hs.blt
  have g3 := h0.out.hs.glt
  have g4 := h0.out.hk.lt
  have hX := Mod.setCell (S := (· = w.heap.size)) (p := ⟨w.heap.size, 1, none⟩) (Mod.setCell (S := (· = w.heap.size)) (p := ⟨w.heap.size, 0, none⟩) (Mod.refl _ w2) (.inl rfl) (.int .i64 k)) (.inl rfl) (.int .u32 (c.gen + 1))
  have hM0 : Mod (TOwn sg km) w w2 := ((Mod.refl (TOwn sg km) w).alloc (.cells #[.int .i64 0, .int .u32 0] 30 (0, 0))).trans hM2 (fun _ _ h => h)
  exact ⟨hT2.mod hX (by omega) (by omega) (by omega) (by omega) (by omega), hM0.trans hX (fun i hi h => by omega)⟩
theorem tNew_at (n : Nat) (w : World) (h1 : 1 ≤ n) (h2 : n ≤ 4096) :
    Calls Tryz.prog 5 #[.int .i64 n] w fun e w' => ∃ t sb sg kb km, e = .returned (.tuple #[.pointer (some ⟨t, 0, none⟩), .int .i64 0]) ∧ TreeAt w' t sb sg kb km (List.replicate n ⟨false, Nd.zero, 0⟩) [] 0 ∧ (w.heap.size ≤ t ∧ w.heap.size ≤ sb ∧ w.heap.size ≤ sg ∧ w.heap.size ≤ kb ∧ w.heap.size ≤ km) ∧ Below w.heap.size w w' := by
  have HS := hid (S.new_any n w h1 h2)
  have HK := hid (fun w => K.new_at w)
  go_enter Tryz.func5, Tryz.ntmps5
  go_wp2_with (first | (go_at_call 21; refine HS.out.mono ?_; rintro e w2 ⟨sb, sg, rfl, l1, l2, hS, hB2⟩; have hS := hid hS; have hB2 := hid hB2) | (go_at_call 22; refine (HK.out _).mono ?_; rintro e w3 ⟨kb, km, rfl, hK, l3, l4, hB3⟩; have hK := hid hK; have hB3 := hid hB3))
  go_ret2
  refine ⟨w3.heap.size, sb, sg, kb, km, rfl, ⟨heap_new _ _, (hS.out.keep hB3.out).alloc _, hK.out.alloc _⟩, ?_, ?_⟩
  · have := hB2.out.size
    have := hB3.out.size
    omega
  · exact (below_chain hB2.out hB3.out hB2.out.size).alloc (by have := hB2.out.size; have := hB3.out.size; omega) _
end Go.Proofs.YtnngicopphiaaaaGreatDoor.T
