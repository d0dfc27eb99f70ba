/- Part 36 of 51 of a proof: lemmas on the functions that it reaches. -/
import Derived.Test.YtnngicopphiaaaaGreatDoorC33
import Derived.Test.YtnngicopphiaaaaGreatDoorC34
import Derived.Test.YtnngicopphiaaaaGreatDoorC35
namespace Go.Proofs.YtnngicopphiaaaaGreatDoor.T
set_option maxRecDepth 8000
open Go.ChangeShapes Go.WideShapes Go.ChangeAt Go.RowKit Go.Burg
open Go.Burg.Lk
structure PutS (B : Nat) (vb sp rb g wc : Nat) (ch : Array Value) (s : SpotP) (r : Int × Int) (W : World) : Prop where
  c : W.heap[vb]? = some (.cells ch 47 (0, 0))
  s : SpotAt W sp g wc s
  r : W.heap[rb]? = some (.cells #[.int .i64 r.1, .int .u32 r.2] 30 (0, 0))
  l : B ≤ vb ∧ B ≤ sp ∧ B ≤ rb ∧ B ≤ g
theorem PutS.keep {B : Nat} {vb sp rb g wc : Nat} {ch : Array Value} {s : SpotP} {r : Int × Int} {W W' : World} (h : PutS B vb sp rb g wc ch s r W) (hb : Below W.heap.size W W') : PutS B vb sp rb g wc ch s r W' :=
  ⟨(hb.block _ (lt_of_block h.c)).trans h.c, h.s.keep hb, (hb.block _ (lt_of_block h.r)).trans h.r, h.l⟩
theorem SpotAt.mod' {S : Nat → Prop} {w w' : World} {b g wc : Nat} {s : SpotP} (h : SpotAt w b g wc s) (hM : Mod S w w') (h1 : ¬ S b) (h2 : ¬ S g) : SpotAt w' b g wc s :=
  ⟨(hM.block _ (lt_of_block h.h) h1).trans h.h, O.own_mod h.o hM (fun j hj e => by simp only [Value.ownBlock, Option.some.injEq] at hj; subst hj; exact h2 e), h.n, h.m⟩
theorem PutS.mod {S : Nat → Prop} {B : Nat} {vb sp rb g wc : Nat} {ch : Array Value} {s : SpotP} {r : Int × Int} {W W' : World} (h : PutS B vb sp rb g wc ch s r W) (hM : Mod S W W') (hS : ¬ S vb ∧ ¬ S sp ∧ ¬ S rb ∧ ¬ S g) : PutS B vb sp rb g wc ch s r W' :=
  ⟨(hM.block _ (lt_of_block h.c) hS.1).trans h.c, h.s.mod' hM hS.2.1 hS.2.2.2, (hM.block _ (lt_of_block h.r) hS.2.2.1).trans h.r, h.l⟩
structure SetJ (w0 : World) (t sb sg kb km : Nat) (l : List (Cel Nd)) (L : List (RefK × Wd)) (tk : Int) (w : World) : Prop where
  m : Mod (· = sg) w0 w
  t : TreeAt w t sb sg kb km l L tk
theorem rooms_mod {S : Nat → Prop} {w w' : World} (h : RoomsAt w) (hM : Mod S w w') (h0 : ¬ S 0) : RoomsAt w' := h.same (hM.block 0 h.lt h0)
theorem Rel.cell {w : World} {l : List (Cel Nd)} {P : List (Cel PNd)} (h : Rel w l P) {j : Nat} {p : Cel PNd} (hj : P[j]? = some p) : ∃ c, l[j]? = some c ∧ c.is = p.is ∧ c.gen = p.gen ∧ c.room = p.room := by
  have hi : j < l.length := by rw [h.len]; exact (List.getElem?_eq_some_iff.1 hj).1
  obtain ⟨p', g1, g2, g3, _⟩ := h.at_ j _ (List.getElem?_eq_getElem hi)
  rw [hj] at g1
  cases g1
  exact ⟨l[j], List.getElem?_eq_getElem hi, g2.symm, g3.symm, by unfold Cel.room; rw [g2, g3]⟩
theorem roomOf_le (k : Nat) : roomOf k ≤ 256 := by rcases k with _ | _ | _ | _ | _ | _ | k <;> simp [roomOf]
def tdP (j : Nat) (x : Value) : Value := match j with
  | 12 => tupAt x 0
  | 13 => tupAt x 1
  | _ => x
set_option maxRecDepth 20000 in
set_option maxHeartbeats 8000000 in
theorem Put_bare {t sb sg kb km i ir j k : Nat} {l : List (Cel Nd)} {P : List (Cel PNd)} {L : List (RefK × Wd)} {tk : Int} {slot gen : Int} {c v : ByteArray} {q : PNd} {s : SpotP} {r : Int × Int} {pt : ByteArray} {Lk : List Kd} {pl di : Bool} {pj : Cel PNd} (w : World) (h : TreeAt w t sb sg kb km l L tk) (hR : Rel w l P) (hr : RoomsAt w) (hc : Coded c) (hv : v.size ≤ 32) (hq : LiveP P slot gen i q) (hp : q.planted = true) (hs : SeekW P c (slot, gen) 0 [] s) (hw : s.what = 2)
    (hrl : s.way[s.way.length - 1]? = some r) (hqr : LiveP P r.1 r.2 ir ⟨.inner k pt Lk, pl, di⟩) (hgr : (!pl && !(((kindOf (Lk.length + 1) : Nat) : Int) == k)) = false) (hF : First P (j : Int)) (hj : P[j]? = some pj) (hjr : pj.room = true) (hjn : j ≠ ir)
    (hat : s.at_ < 256) (hok : (⟨s.at_, j, pj.gen + 1⟩ : Kd).ok) (hf : findK Lk s.at_ = none) (hl : Lk.length + 1 ≤ roomOf (max (O.kOf pl k (Lk.length + 1)) k)) (h5 : max (O.kOf pl k (Lk.length + 1)) k ≤ 5) (h0 : ¬ TOwn sg km 0) (hmb : O.MayB (O.kOf pl k (Lk.length + 1)) (Lk.length + 1) pt) (rr : RefK) (hr1 : rr.1.1 = j) (hr2 : rr.1.2 = pj.gen + 1) :
    Calls Tryz.prog 16 #[.pointer (some ⟨t, 0, none⟩), .agg #[.int .i64 slot, .int .u32 gen], .string c, .string v] w fun e w' => e = .returned (.tuple #[.slice none 0 0, .int .i64 0]) ∧
      TreeP w' t sb sg kb km ((P.set j ⟨true, ⟨.leaf c v, false, false⟩, pj.gen + 1⟩).set ir ⟨true, ⟨.inner (O.kOf pl k (Lk.length + 1)) pt (insK Lk ⟨s.at_, j, pj.gen + 1⟩), pl, di⟩, r.2⟩) (K.addL L rr).2 tk ∧ Mod (TOwn sg km) w w' := by
  have b0 := heap_new w (.cells #[.int .i64 slot, .int .u32 gen] 30 (0, 0))
  have hB : Below w.heap.size w (w.alloc (.cells #[.int .i64 slot, .int .u32 gen] 30 (0, 0))) := (Below.refl _ _).alloc (Nat.le_refl _) _
  obtain ⟨⟨xis, ⟨kn, cd, vl, xp, ⟨ya, yn, yc⟩, ⟨za, zn, zc⟩, xpl, xdi⟩, xgn⟩, hLx, hplx, hdix, hNx⟩ := hR.live hqr
  obtain ⟨rfl, rfl, rfl, rfl, hNI, hMB⟩ := hNx
  simp only at hplx hdix hNI
  obtain rfl : zn = Lk.length := O.own_len hNI.z
  obtain rfl : xis = true := hLx.2.2.1
  subst hplx hdix
  obtain rfl : xgn = r.2 := hLx.2.2.2
  have hwp := SeekW.way_pos hs
  have hzn : Lk.length ≤ 1000 := by have := hNI.room; omega
  have HPL := hid (Plan_put2 (w.alloc (.cells #[.int .i64 slot, .int .u32 gen] 30 (0, 0))) (h.keep hB) (hR.keep hB) (hr.keep hB) hc hq hp hs hw 1 [] 1 (fun w1 b g wc hb1 hsa hwc => (bare_no w1 ((h.keep hB).keep hb1) ((hr.keep hB).keep hb1) hzn hsa hwc hrl hLx hgr).mono (fun e w' h => ⟨none, 0, h.1, World.ownsRow_nil _ _ _ _, h.2⟩)))
  have dv : decide ((v.size : Int) > 32) = false := by simp; omega
  have HFl := hid (hR.first hF)
  obtain ⟨cj, hcj, _, hcg, hcr⟩ := hR.cell hj
  have HCJ := hid (And.intro hcj (And.intro hcg (hcr.trans hjr)))
  have HLT := hid (And.intro (lt_of_block h.ht) (And.intro h.hs.blt (And.intro h.hs.glt h.hk.lt)))
  have HT := hid h
  have HR := hid hR
  clear hcj hcg hcr hF hj hjr
  have HRM := hid hr
  clear h hR hr
  go_enter Tryz.func16, Tryz.ntmps16
  go_wp2_with ((go_at_call 17; refine HPL.out.mono ?_; rintro e w2 ⟨g, wc, da, dc, rfl, how, hod, hb2⟩; unfold lastV; go_loud (have h0 := (hb2.block _ (lt_of_block b0)).trans b0; have hc2 := heap_new w2 (.cells #[(.slice (some ⟨g, (s.way.length - 1) * 2, none⟩) 1 (wc - (s.way.length - 1))), .slice da 0 dc, .int .i64 1] 47 (0, 0)); have hbc : Below w2.heap.size w2 (w2.alloc (.cells #[(.slice (some ⟨g, (s.way.length - 1) * 2, none⟩) 1 (wc - (s.way.length - 1))), .slice da 0 dc, .int .i64 1] 47 (0, 0))) := (Below.refl _ _).alloc (Nat.le_refl _) _; have hbw2 := hB.trans (hb2.mono hB.size); have HB2 := hid (hbw2.trans (hbc.mono hbw2.size)); have HC2 := hid hc2; have H02 := hid ((hbc.block _ (lt_of_block h0)).trans h0); clear h0 hc2 hbc hbw2 how hod hb2)))
  have hvb0 := hid (show w.heap.size ≤ w2.heap.size by have := lt_of_block H02.out; simp at this; omega)
  generalize hWA : w2.alloc (.cells #[(.slice (some ⟨g, (s.way.length - 1) * 2, none⟩) 1 (wc - (s.way.length - 1))), .slice da 0 dc, .int .i64 1] 47 (0, 0)) = WA at *
  generalize w2.heap.size = vb at *
  have hrm : 1 ≤ roomN l := roomN_pos HFl.out
  have hd6 : decide (((roomN l : Nat) : Int) < 1) = false := by simp; omega
  have hTA := HT.out.keep HB2.out
  have HTA := hid hTA
  clear hTA hWA
  refine wp_region_seq 10 (fun w1 => Below (WA).heap.size (WA) w1) (by kernel_rfl) (by kernel_rfl) (by kernel_rfl) ⟨rfl, rfl, rfl, Nat.le_refl _, fun _ _ => rfl⟩ ?_
  dsimp only [List.take]
  iterate 10
    refine Seq.cons (a' := ?_) ?_ ?_ ?_
    rotate_left
    ·
      intro w1 hw1
      have t0 := cell_of (HTA.out.keep hw1).ht 0; have c2 := cell_of (blk_below HC2.out hw1 (lt_of_block HC2.out)) 2
      go_wp2_with (go_at_call 35; refine (S.left_any _ (HTA.out.keep hw1).hs).mono ?_; rintro e w' ⟨rfl, hb⟩)
      refine ⟨?_, by first | assumption | (simpa using below_chain hw1 hb hw1.size)⟩
      exact rfl
    · kernel_rfl
  refine SeqI.nil ?_
  intro _ w1 _ hw1
  dsimp only [List.drop]
  have hbw := HB2.out.trans (hw1.mono HB2.out.size)
  have h02 := blk_below H02.out hw1 (lt_of_block H02.out)
  have a0 := cell_of h02 0
  have a1 := cell_of h02 1
  have HC3 := hid (blk_below HC2.out hw1 (lt_of_block HC2.out))
  have HSK := hid (Seek_at w1 (HT.out.keep hbw) (HR.out.keep hbw) (HRM.out.keep hbw) hc hq hp hs)
  have HBW := hid hbw
  clear hw1 h02 hbw HPL H02 HC2 HB2
  have HWH := hid hw
  have HRL := hid hrl
  have HS := hid hs
  go_wp2_with (first | (go_at_call 36; refine HSK.out.mono ?_; rintro e w4 ⟨wa, wc4, rfl, how, hb4⟩; rw [HWH.out]; go_loud (obtain ⟨g4, rfl, lg, _⟩ := O.own_cells (own_le how (Nat.zero_le _)) (SeekW.way_pos HS.out); have hg4 := (O.own_ge how rfl).1; have hsp4 := heap_new w4 (.cells #[.int .i64 2, .slice (some ⟨g4, 0, none⟩) s.way.length wc4, .int .i64 s.at_, .int .i64 s.depth] 79 (0, 0)); have hbs : Below w4.heap.size w4 (w4.alloc (.cells #[.int .i64 2, .slice (some ⟨g4, 0, none⟩) s.way.length wc4, .int .i64 s.at_, .int .i64 s.depth] 79 (0, 0))) := (Below.refl _ _).alloc (Nat.le_refl _) _; have hwm : s.way.length ≤ 100 := (by have h1 := SeekW.way_le HS.out; have h2 := hc.size; simp only [List.length_nil] at h1; omega); have hSA : SpotAt (w4.alloc (.cells #[.int .i64 2, .slice (some ⟨g4, 0, none⟩) s.way.length wc4, .int .i64 s.at_, .int .i64 s.depth] 79 (0, 0))) w4.heap.size g4 wc4 s := ⟨(by rw [HWH.out]; exact hsp4), own_le (O.own_mod how (O.mod_of_below (S := fun _ => False) hbs) (fun _ _ h => h)) (Nat.zero_le _), SeekW.way_pos HS.out, hwm⟩; have HUP := hid (up_at (k := 0) hSA (SeekW.way_pos HS.out) (by simpa using HRL.out)); have hb14 := hb4.trans (hbs.mono hb4.size); have HC4 := hid ((hb14.block _ (lt_of_block HC3.out)).trans HC3.out); have HB4 := hid (HBW.out.trans (hb14.mono HBW.out.size)); have HSA := hid hSA; have HG4 := hid hg4; have HL4 := hid (HBW.out.trans (hb4.mono HBW.out.size)).size; clear how hb4 lg hg4 hsp4 hbs hwm hSA hb14)) | (go_at_call 37; refine HUP.out.mono ?_; rintro e w5 ⟨rfl, hb5⟩; go_loud (have hr5 := heap_new w5 (.cells #[.int .i64 r.1, .int .u32 r.2] 30 (0, 0)); have hbr : Below w5.heap.size w5 (w5.alloc (.cells #[.int .i64 r.1, .int .u32 r.2] 30 (0, 0))) := (Below.refl _ _).alloc (Nat.le_refl _) _; have hb45 := hb5.trans (hbr.mono hb5.size); have hPS : PutS w.heap.size vb w4.heap.size w5.heap.size g4 wc4 #[(.slice (some ⟨g, (s.way.length - 1) * 2, none⟩) 1 (wc - (s.way.length - 1))), .slice da 0 dc, .int .i64 1] s r (w5.alloc (.cells #[.int .i64 r.1, .int .u32 r.2] 30 (0, 0))) := ⟨(hb45.block _ (lt_of_block HC4.out)).trans HC4.out, HSA.out.keep hb45, hr5, (by have := HB4.out.size; have := hb5.size; have := HG4.out; have := HBW.out.size; exact ⟨hvb0.out, HL4.out, by omega, by omega⟩)⟩; have HPS := hid hPS; have HBP := hid (HB4.out.trans (hb45.mono HB4.out.size)); clear hr5 hbr hb45 hPS hb5)))
  clear HUP HC4 HB4 HSA HG4 HL4 HSK HC3 HBW HTA a0 a1
  generalize hWX : w5.alloc (.cells #[.int .i64 r.1, .int .u32 r.2] 30 (0, 0)) = W at *
  generalize w4.heap.size = sp at *
  generalize w5.heap.size = rb at *
  clear hWX
  have hTW := HT.out.keep HBP.out
  have HTW := hid hTW
  have HPN : Hid (∀ w1, Below W.heap.size W w1 → Calls Tryz.prog 38 #[.pointer (some ⟨t, 0, none⟩), .agg #[.int .i64 r.1, .int .u32 r.2]] w1 fun e w' => e = .returned (.agg #[.int .i64 k, .string ⟨#[]⟩, .string ⟨#[]⟩, .string xp, .slice ya yn yc, .slice za Lk.length zc]) ∧ Below w1.heap.size w1 w') := hid (fun w1 hw1 => node_at r.1 r.2 w1 (HTW.out.keep hw1) hLx)
  have n0 := cell_of HPS.out.r 0
  have n1 := cell_of HPS.out.r 1
  have t0 := cell_of hTW.ht 0
  have l0 := lt_of_block HPS.out.r
  have l1 := lt_of_block hTW.ht
  clear hTW
  have HNT : Hid (¬ TOwn sg km vb ∧ ¬ TOwn sg km sp ∧ ¬ TOwn sg km rb ∧ ¬ TOwn sg km g4) := hid (by have := HPS.out.l; have := HLT.out; refine ⟨?_, ?_, ?_, ?_⟩ <;> rintro (e | e) <;> omega)
  go_region_with (go_at_call 38; refine (HPN.out _ (by (repeat (first | exact Below.refl _ _ | assumption | with_reducible refine Below.drew ?_ | with_reducible refine below_drewN ?_ | with_reducible refine Below.setCell ?_ (by first | (simp; done) | (simp; omega)) _ | with_reducible refine Below.alloc ?_ (by first | exact Nat.le_refl _ | (simp; done) | (simp; omega)) _)))).mono ?_; rintro e w2 ⟨rfl, hw2⟩; (try (have z := (hw2.block W.heap.size (by simp)).trans (heap_new W (.cells #[.int .i64 0, .string ⟨#[]⟩, .string ⟨#[]⟩, .string ⟨#[]⟩, .slice none 0 0, .slice none 0 0] 53 (0, 0))); have z0 := cell_of z 0; have z1 := cell_of z 1; have z2 := cell_of z 2; have z3 := cell_of z 3; have z4 := cell_of z 4; have z5 := cell_of z 5; have zf := free_of z)); have HW2 : Hid (Below W.heap.size W w2) := hid (below_chain (by (repeat (first | exact Below.refl _ _ | assumption | with_reducible refine Below.drew ?_ | with_reducible refine below_drewN ?_ | with_reducible refine Below.setCell ?_ (by first | (simp; done) | (simp; omega)) _ | with_reducible refine Below.alloc ?_ (by first | exact Nat.le_refl _ | (simp; done) | (simp; omega)) _))) hw2 (by first | exact Nat.le_refl _ | (simp; done) | (simp; omega))); clear hw2)
  all_goals first | (have hmid := nodeB (k := k) (cd := ⟨#[]⟩) (vl := ⟨#[]⟩) (pt := xp) (ya := ya) (za := za) (yn := yn) (yc := yc) (zn := Lk.length) (zc := zc) HW2.out z; generalize hE : ((((((w2.setCell ⟨W.heap.size, 0, none⟩ (.int .i64 k)).setCell ⟨W.heap.size, 1, none⟩ (.string ⟨#[]⟩)).setCell ⟨W.heap.size, 2, none⟩ (.string ⟨#[]⟩)).setCell ⟨W.heap.size, 3, none⟩ (.string xp)).setCell ⟨W.heap.size, 4, none⟩ (.slice ya yn yc)).setCell ⟨W.heap.size, 5, none⟩ (.slice za Lk.length zc)) = w3 at hmid ⊢; generalize hEu : W.heap.size = u at hmid ⊢) | (have hmid := nmidA (o := (.cells #[.int .i64 k, .string ⟨#[]⟩, .string ⟨#[]⟩, .string xp, .slice ya yn yc, .slice za Lk.length zc] 53 (0, 0))) HW2.out; generalize hE : w2.alloc (.cells #[.int .i64 k, .string ⟨#[]⟩, .string ⟨#[]⟩, .string xp, .slice ya yn yc, .slice za Lk.length zc] 53 (0, 0)) = w3 at hmid ⊢; generalize hEu : w2.heap.size = u at hmid ⊢)
  all_goals
    try clear z z0 z1 z2 z3 z4 z5 zf
    clear hE hEu HPN n0 n1 t0 HW2 l0 l1
    obtain ⟨hb3, hu, ho⟩ := hmid
    have HPS3 := hid (HPS.out.keep hb3)
    have HB3 := hid (HBP.out.trans (hb3.mono HBP.out.size))
    have HT3 := hid (HT.out.keep HB3.out)
    have HO3 := hid ho
    have hul : w.heap.size ≤ u := Nat.le_trans HBP.out.size hu
    have hur : vb < u ∧ sp < u ∧ rb < u ∧ g4 < u := ⟨Nat.lt_of_lt_of_le (lt_of_block HPS.out.c) hu, Nat.lt_of_lt_of_le (lt_of_block HPS.out.s.h) hu, Nat.lt_of_lt_of_le (lt_of_block HPS.out.r) hu, Nat.lt_of_lt_of_le HPS.out.s.glt hu⟩
    have HU := hid (And.intro hul hur)
    have s0 := cell_of HPS3.out.s.h 0
    rw [HWH.out] at s0
    have HTK := hid (take_at 1 c v ⟨#[]⟩ none none 0 0 0 0 false w3 HT3.out HFl.out HCJ.out.1 HCJ.out.2.2 rr hr1 (hr2.trans (by rw [HCJ.out.2.1])))
    rw [HCJ.out.2.1] at HTK
    clear hb3 hu ho hul hur HPS HTW HBP
    go_wp2_with (go_at_call 24; refine HTK.out.mono ?_; rintro e w6 ⟨rfl, hT6, hM6⟩; go_loud (have hps6 := HPS3.out.mod hM6 HNT.out; have ss0 : ∀ o, (w6.alloc o).cell? ⟨sp, 0, none⟩ = some (.int .i64 2) := (fun o => by have hq := cell_of (blk_alloc (o' := o) hps6.s.h) 0; rw [HWH.out] at hq; exact hq); have HPS6 := hid hps6; have HT6 := hid hT6; have HM6 := hid hM6; clear hps6 hT6 hM6))
    have hwr : IntKind.u8.wrap ((s.at_ : Nat) : Int) = ((s.at_ : Nat) : Int) := by rw [IntKind.wrap_u8]; omega
    have h7 := heap_new w6 (.cells #[.int .i64 j, .int .u32 (pj.gen + 1)] 30 (0, 0))
    have hb7 : Below w6.heap.size w6 (w6.alloc (.cells #[.int .i64 j, .int .u32 (pj.gen + 1)] 30 (0, 0))) := (Below.refl _ _).alloc (Nat.le_refl _) _
    have hM7 : Mod (TOwn sg km) w (w6.alloc (.cells #[.int .i64 j, .int .u32 (pj.gen + 1)] 30 (0, 0))) := ((Mod.ofBelow (S := TOwn sg km) HB3.out).trans HM6.out (fun _ _ h => h)).alloc _
    have hu7 := (hb7.block u (by have := lt_of_block HO3.out; have := HM6.out.size; omega)).trans ((HM6.out.block u (lt_of_block HO3.out) (by have := HLT.out; have := HU.out; rintro (e | e) <;> omega)).trans HO3.out)
    have hlu : u < w6.heap.size := by have := lt_of_block HO3.out; have := HM6.out.size; omega
    have HT7 := hid (HT6.out.keep hb7)
    have HP7 := hid (HPS6.out.keep hb7)
    clear ss0 HTK s0
    generalize hW7 : w6.alloc (.cells #[.int .i64 j, .int .u32 (pj.gen + 1)] 30 (0, 0)) = W7 at *
    generalize w6.heap.size = lf at *
    clear hb7 hW7 HPS3 HPS6 HT6 HM6 HT3
    have HM7 := hid hM7
    have H7 := hid h7
    have HU7 := hid hu7
    have HR7 := hid (rooms_mod HRM.out hM7 h0)
    have HN7 : Hid (O.NodeIn W7 k xp ya yn yc za Lk.length zc Lk) := hid ⟨O.own_mod hNI.b hM7 (fun k' hk hs => own_not hNI.b (.inl rfl) hk (HT.out.noRow k' hs)), O.own_mod hNI.z hM7 (fun k' hk hs => own_not hNI.z (.inr rfl) hk (HT.out.noRow k' hs)), hNI.k1, hNI.k2, hNI.p, hNI.len, hNI.rise, hNI.ok⟩
    have HL7 : Hid (S.Live (l.set j ⟨true, (⟨1, c, v, ⟨#[]⟩, ⟨none, 0, 0⟩, ⟨none, 0, 0⟩, false, false⟩ : Nd), pj.gen + 1⟩) r.1 r.2 ir ⟨true, ⟨k, ⟨#[]⟩, ⟨#[]⟩, xp, ⟨ya, yn, yc⟩, ⟨za, Lk.length, zc⟩, xpl, xdi⟩, r.2⟩) := hid ⟨hLx.1, by rw [List.getElem?_set_ne hjn]; exact hLx.2.1, rfl, hLx.2.2.2⟩
    have hll := HLT.out
    clear h7 hM7 hu7
    have hxt : ∀ w1, Mod (· = u) W7 w1 → Below w.heap.size W7 w1 := fun w1 hM => ⟨hM.os, hM.tape, hM.output, hM.size, fun b hb => hM.block b (Nat.lt_of_lt_of_le hb HM7.out.size) (show ¬ b = u by have := HU.out; omega)⟩
    have HXT := hid hxt
    clear hxt
    have HUD := hid (show ¬ sp = u ∧ ¬ rb = u ∧ ¬ lf = u ∧ ¬ vb = u ∧ ¬ g4 = u by have := HU.out; omega)
    have hkd2 := O.kOf_ok (a := xpl) (k := k) (n := Lk.length + 1) (Nat.le_trans hl (roomOf_le _)) hNI.k1 hNI.k2
    have HN8 : Hid ((insK Lk (⟨s.at_, j, pj.gen + 1⟩ : Kd)).length = Lk.length + 1) := hid (insK_len _ _)
    have HF := hid hf
    have HOK := hid hok
    have HMB := hid hMB
    have HQ := hid (And.intro hl h5)
    have HPL := hid (fun w1 hM => planted_at r.1 r.2 w1 (HT7.out.mod (S := (· = u)) hM (show ¬ t = u by have := HU.out; omega) (show ¬ sb = u by have := HU.out; omega) (show ¬ sg = u by have := HU.out; omega) (show ¬ kb = u by have := HU.out; omega) (show ¬ km = u by have := HU.out; omega)) HL7.out)
    refine wp_region_val 15 (GJ 53 (TurnF (O.kOf xpl k (Lk.length + 1)) xp (Lk.length + 1) u (insK Lk (⟨s.at_, j, pj.gen + 1⟩ : Kd))) W7 u 10 14 [0, 1, 2, 3, 4, 5, 6, 7, 8, 9] [11, 12, 13] [(10, 0)] (fun j' => ([.agg #[.int .i64 k, .string ⟨#[]⟩, .string ⟨#[]⟩, .string xp, .slice ya yn yc, .slice za Lk.length zc], .pointer (some ⟨sp, 2, none⟩), .int .i64 s.at_, .int .u8 s.at_, .agg #[.int .i64 j, .int .u32 (pj.gen + 1)], .pointer (some ⟨t, 0, none⟩), .pointer (some ⟨t, 0, none⟩), .pointer (some ⟨t, 0, none⟩), .agg #[.int .i64 r.1, .int .u32 r.2], .bool xpl] : List Value)[j']?.getD undef) tdP #[.int .i64 k, .string ⟨#[]⟩, .string ⟨#[]⟩, .string xp, .slice ya yn yc, .slice za Lk.length zc] (fun x => match tupAt x 0 with | .agg cs => cs | _ => #[])) (by kernel_rfl) (by kernel_rfl) (by kernel_rfl) ?h0 ?hs ?hend
    case h0 => exact GJ.start HU7.out
    case hs =>
      dsimp only [List.take, AllOpsI, dsts, fill]
      refine ⟨?_, ?_, ?_, ?_, ?_, ?_, ?_, ?_, ?_, ?_, ?_, ?_, ?_, ?_, ?_⟩
      · intro D xs w1 hDk hwt hJ
        skip
        have h14 : D 14 = false := by
          cases e : D 14
          · rfl
          · have := hJ.p 10 0 (by decide) (hJ.s e)
            rw [this] at hDk
            cases hDk
        have hc := hJ.c
        rw [h14] at hc
        simp only [cond_false] at hc
        have q0 := cell_of hc 0; have q1 := cell_of hc 1; have q2 := cell_of hc 2; have q3 := cell_of hc 3; have q4 := cell_of hc 4; have q5 := cell_of hc 5; clear hc
        have HJ := hid hJ
        have HWT := hid hwt
        clear hDk hwt hJ
        go_wp2_with fail
        first | exact ⟨.agg #[.int .i64 k, .string ⟨#[]⟩, .string ⟨#[]⟩, .string xp, .slice ya yn yc, .slice za Lk.length zc], by kernel_rfl, fun q hq => by obtain rfl := hq rfl; exact GJ.calm turnF_keeps HJ.out (by decide) (by decide) (by decide) (fun _ => rfl) (Below.refl _ _) (fun j h => absurd h (by simp))⟩ | exact ⟨.agg #[.int .i64 k, .string ⟨#[]⟩, .string ⟨#[]⟩, .string xp, .slice ya yn yc, .slice za Lk.length zc], by kernel_rfl, GJ.calm turnF_keeps HJ.out (by decide) (by decide) (by decide) (fun _ => rfl) (Below.refl _ _) (fun j h => absurd h (by simp))⟩
      · intro D xs w1 hDk hwt hJ
        skip
        skip
        have HJ := hid hJ
        have HWT := hid hwt
        clear hDk hwt hJ
        go_wp2_with fail
        first | exact ⟨.pointer (some ⟨sp, 2, none⟩), by kernel_rfl, fun q hq => by obtain rfl := hq rfl; exact GJ.calm turnF_keeps HJ.out (by decide) (by decide) (by decide) (fun _ => rfl) (Below.refl _ _) (fun j h => absurd h (by simp))⟩ | exact ⟨.pointer (some ⟨sp, 2, none⟩), by kernel_rfl, GJ.calm turnF_keeps HJ.out (by decide) (by decide) (by decide) (fun _ => rfl) (Below.refl _ _) (fun j h => absurd h (by simp))⟩
      · intro D xs w1 hDk hwt hJ
        have ee : xs 1 = .pointer (some ⟨sp, 2, none⟩) := hJ.v 1 (hwt 1 (List.mem_of_elem_eq_true (by kernel_rfl))) (by decide)
        rw [ee]
        clear ee
        have q2 := cell_of ((hJ.m.block _ (lt_of_block HP7.out.s.h) HUD.out.1).trans HP7.out.s.h) 2
        have HJ := hid hJ
        have HWT := hid hwt
        clear hDk hwt hJ
        go_wp2_with fail
        first | exact ⟨.int .i64 s.at_, by kernel_rfl, fun q hq => by obtain rfl := hq rfl; exact GJ.calm turnF_keeps HJ.out (by decide) (by decide) (by decide) (fun _ => rfl) (Below.refl _ _) (fun j h => absurd h (by simp))⟩ | exact ⟨.int .i64 s.at_, by kernel_rfl, GJ.calm turnF_keeps HJ.out (by decide) (by decide) (by decide) (fun _ => rfl) (Below.refl _ _) (fun j h => absurd h (by simp))⟩
      · intro D xs w1 hDk hwt hJ
        have ee : xs 2 = .int .i64 s.at_ := hJ.v 2 (hwt 2 (List.mem_of_elem_eq_true (by kernel_rfl))) (by decide)
        rw [ee]
        clear ee
        skip
        have HJ := hid hJ
        have HWT := hid hwt
        clear hDk hwt hJ
        go_wp2_with fail
        first | exact ⟨.int .u8 s.at_, by kernel_rfl, fun q hq => by obtain rfl := hq rfl; exact GJ.calm turnF_keeps HJ.out (by decide) (by decide) (by decide) (fun _ => rfl) (Below.refl _ _) (fun j h => absurd h (by simp))⟩ | exact ⟨.int .u8 s.at_, by kernel_rfl, GJ.calm turnF_keeps HJ.out (by decide) (by decide) (by decide) (fun _ => rfl) (Below.refl _ _) (fun j h => absurd h (by simp))⟩
      · intro D xs w1 hDk hwt hJ
        skip
        have qc := (hJ.m.block _ (lt_of_block H7.out) HUD.out.2.2.1).trans H7.out; have q0 := cell_of qc 0; have q1 := cell_of qc 1; clear qc
        have HJ := hid hJ
        have HWT := hid hwt
        clear hDk hwt hJ
        go_wp2_with fail
        first | exact ⟨.agg #[.int .i64 j, .int .u32 (pj.gen + 1)], by kernel_rfl, fun q hq => by obtain rfl := hq rfl; exact GJ.calm turnF_keeps HJ.out (by decide) (by decide) (by decide) (fun _ => rfl) (Below.refl _ _) (fun j h => absurd h (by simp))⟩ | exact ⟨.agg #[.int .i64 j, .int .u32 (pj.gen + 1)], by kernel_rfl, GJ.calm turnF_keeps HJ.out (by decide) (by decide) (by decide) (fun _ => rfl) (Below.refl _ _) (fun j h => absurd h (by simp))⟩
      · intro D xs w1 hDk hwt hJ
        skip
        skip
        have HJ := hid hJ
        have HWT := hid hwt
        clear hDk hwt hJ
        go_wp2_with fail
        first | exact ⟨.pointer (some ⟨t, 0, none⟩), by kernel_rfl, fun q hq => by obtain rfl := hq rfl; exact GJ.calm turnF_keeps HJ.out (by decide) (by decide) (by decide) (fun _ => rfl) (Below.refl _ _) (fun j h => absurd h (by simp))⟩ | exact ⟨.pointer (some ⟨t, 0, none⟩), by kernel_rfl, GJ.calm turnF_keeps HJ.out (by decide) (by decide) (by decide) (fun _ => rfl) (Below.refl _ _) (fun j h => absurd h (by simp))⟩
      · intro D xs w1 hDk hwt hJ
        have ee : xs 5 = .pointer (some ⟨t, 0, none⟩) := hJ.v 5 (hwt 5 (List.mem_of_elem_eq_true (by kernel_rfl))) (by decide)
        rw [ee]
        clear ee
        skip
        have HJ := hid hJ
        have HWT := hid hwt
        clear hDk hwt hJ
        go_wp2_with fail
        first | exact ⟨.pointer (some ⟨t, 0, none⟩), by kernel_rfl, fun q hq => by obtain rfl := hq rfl; exact GJ.calm turnF_keeps HJ.out (by decide) (by decide) (by decide) (fun _ => rfl) (Below.refl _ _) (fun j h => absurd h (by simp))⟩ | exact ⟨.pointer (some ⟨t, 0, none⟩), by kernel_rfl, GJ.calm turnF_keeps HJ.out (by decide) (by decide) (by decide) (fun _ => rfl) (Below.refl _ _) (fun j h => absurd h (by simp))⟩
      · intro D xs w1 hDk hwt hJ
        have ee : xs 6 = .pointer (some ⟨t, 0, none⟩) := hJ.v 6 (hwt 6 (List.mem_of_elem_eq_true (by kernel_rfl))) (by decide)
        rw [ee]
        clear ee
        skip
        have HJ := hid hJ
        have HWT := hid hwt
        clear hDk hwt hJ
        go_wp2_with fail
        first | exact ⟨.pointer (some ⟨t, 0, none⟩), by kernel_rfl, fun q hq => by obtain rfl := hq rfl; exact GJ.calm turnF_keeps HJ.out (by decide) (by decide) (by decide) (fun _ => rfl) (Below.refl _ _) (fun j h => absurd h (by simp))⟩ | exact ⟨.pointer (some ⟨t, 0, none⟩), by kernel_rfl, GJ.calm turnF_keeps HJ.out (by decide) (by decide) (by decide) (fun _ => rfl) (Below.refl _ _) (fun j h => absurd h (by simp))⟩
      · intro D xs w1 hDk hwt hJ
        skip
        have qc := (hJ.m.block _ (lt_of_block HP7.out.r) HUD.out.2.1).trans HP7.out.r; have q0 := cell_of qc 0; have q1 := cell_of qc 1; clear qc
        have HJ := hid hJ
        have HWT := hid hwt
        clear hDk hwt hJ
        go_wp2_with fail
        first | exact ⟨.agg #[.int .i64 r.1, .int .u32 r.2], by kernel_rfl, fun q hq => by obtain rfl := hq rfl; exact GJ.calm turnF_keeps HJ.out (by decide) (by decide) (by decide) (fun _ => rfl) (Below.refl _ _) (fun j h => absurd h (by simp))⟩ | exact ⟨.agg #[.int .i64 r.1, .int .u32 r.2], by kernel_rfl, GJ.calm turnF_keeps HJ.out (by decide) (by decide) (by decide) (fun _ => rfl) (Below.refl _ _) (fun j h => absurd h (by simp))⟩
      · intro D xs w1 hDk hwt hJ
        have ee : xs 7 = .pointer (some ⟨t, 0, none⟩) := hJ.v 7 (hwt 7 (List.mem_of_elem_eq_true (by kernel_rfl))) (by decide)
        rw [ee]
        clear ee
        have ee : xs 8 = .agg #[.int .i64 r.1, .int .u32 r.2] := hJ.v 8 (hwt 8 (List.mem_of_elem_eq_true (by kernel_rfl))) (by decide)
        rw [ee]
        clear ee
        have HPL1 := hid (HPL.out w1 hJ.m)
        have HJ := hid hJ
        have HWT := hid hwt
        clear hDk hwt hJ
        go_wp2_with (go_at_call 42; refine HPL1.out.mono ?_; rintro e w8 ⟨rfl, hb8⟩)
        first | exact ⟨.bool xpl, by kernel_rfl, fun q hq => by obtain rfl := hq rfl; exact GJ.calm turnF_keeps HJ.out (by decide) (by decide) (by decide) (fun _ => rfl) (hb8) (fun j h => absurd h (by simp))⟩ | exact ⟨.bool xpl, by kernel_rfl, GJ.calm turnF_keeps HJ.out (by decide) (by decide) (by decide) (fun _ => rfl) (hb8) (fun j h => absurd h (by simp))⟩
      · intro D xs w1 hDk hwt hJ
        have hD : D 10 = false := hDk
        have ee : xs 0 = .agg #[.int .i64 k, .string ⟨#[]⟩, .string ⟨#[]⟩, .string xp, .slice ya yn yc, .slice za Lk.length zc] := hJ.v 0 (hwt 0 (List.mem_of_elem_eq_true (by kernel_rfl))) (by decide)
        rw [ee]
        clear ee
        have ee : xs 3 = .int .u8 s.at_ := hJ.v 3 (hwt 3 (List.mem_of_elem_eq_true (by kernel_rfl))) (by decide)
        rw [ee]
        clear ee
        have ee : xs 4 = .agg #[.int .i64 j, .int .u32 (pj.gen + 1)] := hJ.v 4 (hwt 4 (List.mem_of_elem_eq_true (by kernel_rfl))) (by decide)
        rw [ee]
        clear ee
        have ee : xs 9 = .bool xpl := hJ.v 9 (hwt 9 (List.mem_of_elem_eq_true (by kernel_rfl))) (by decide)
        rw [ee]
        clear ee
        have hNw : O.NodeIn w1 k xp ya yn yc za Lk.length zc Lk := ⟨O.own_mod HN7.out.b hJ.m (O.own_off HN7.out.b HU7.out (by decide)), O.own_mod HN7.out.z hJ.m (O.own_off HN7.out.z HU7.out (by decide)), hNI.k1, hNI.k2, hNI.p, hNI.len, hNI.rise, hNI.ok⟩
        have HTN := hid (O.Add_at s.at_ j (pj.gen + 1) xpl HOK.out HF.out HQ.out.1 HQ.out.2 hNw (rooms_mod HR7.out hJ.m (show ¬ (0 : Nat) = u by have := HU.out; omega)) HMB.out)
        have h14 : D 14 = false := by
          cases e : D 14
          · rfl
          · rw [hJ.s e] at hD; cases hD
        have hc := hJ.c
        rw [h14] at hc
        simp only [cond_false] at hc
        have HC := hid hc
        have HJ := hid hJ
        have HWT := hid hwt
        clear hDk hwt hJ hc hNw
        go_wp2_with (go_at_call 41; refine HTN.out.mono ?_; rintro e w8 ⟨cs, rfl, hG, hb8⟩)
        obtain ⟨k2, k3, k4⟩ := hkd2 (fun e => by have := HQ.out.1; subst e; simpa [O.kOf] using this)
        obtain ⟨ya', yc', za', zc', rfl, hN8⟩ := hG.node k2 k3 hNI.p (by rw [HN8.out]; exact k4) (insK_rise hNI.rise HF.out) (O.insK_ok hNI.ok HOK.out)
        rw [HN8.out] at hN8
        try rw [HN8.out]
        have hF8 := turnF_of hN8 ((hb8.block _ (lt_of_block HC.out)).trans HC.out)
        first | exact ⟨.tuple #[.agg #[.int .i64 (O.kOf xpl k (Lk.length + 1)), .string ⟨#[]⟩, .string ⟨#[]⟩, .string xp, .slice ya' (Lk.length + 1) yc', .slice za' (Lk.length + 1) zc'], .int .i64 0], by kernel_rfl, fun q hq => by obtain rfl := hq rfl; exact GJ.call HJ.out hD (by decide) (by decide) (by decide) hF8 hb8 (fun j' h => by simp at h; subst h; exact HWT.out 0 (List.mem_of_elem_eq_true (by kernel_rfl)))⟩ | exact ⟨.tuple #[.agg #[.int .i64 (O.kOf xpl k (Lk.length + 1)), .string ⟨#[]⟩, .string ⟨#[]⟩, .string xp, .slice ya' (Lk.length + 1) yc', .slice za' (Lk.length + 1) zc'], .int .i64 0], by kernel_rfl, GJ.call HJ.out hD (by decide) (by decide) (by decide) hF8 hb8 (fun j' h => by simp at h; subst h; exact HWT.out 0 (List.mem_of_elem_eq_true (by kernel_rfl)))⟩
      · intro D xs w1 hDk hwt hJ
        have h10 : D 10 = true := hwt 10 (List.mem_of_elem_eq_true (by kernel_rfl))
        obtain ⟨ya', yc', za', zc', ea, _⟩ := hJ.l h10
        have HEA := hid ea
        rw [ea]
        have HJ := hid hJ
        clear hDk hwt hJ ea
        go_wp2_with fail
        first | exact ⟨.tuple #[.agg #[.int .i64 (O.kOf xpl k (Lk.length + 1)), .string ⟨#[]⟩, .string ⟨#[]⟩, .string xp, .slice ya' (Lk.length + 1) yc', .slice za' (Lk.length + 1) zc'], .int .i64 0], by kernel_rfl, fun q hq => by obtain rfl := hq rfl; exact GJ.dep HJ.out h10 (by decide) (by decide) (by decide) (by rw [HEA.out]; rfl) (fun j h => absurd h (by simp))⟩ | exact ⟨.tuple #[.agg #[.int .i64 (O.kOf xpl k (Lk.length + 1)), .string ⟨#[]⟩, .string ⟨#[]⟩, .string xp, .slice ya' (Lk.length + 1) yc', .slice za' (Lk.length + 1) zc'], .int .i64 0], by kernel_rfl, GJ.dep HJ.out h10 (by decide) (by decide) (by decide) (by rw [HEA.out]; rfl) (fun j h => absurd h (by simp))⟩
      · intro D xs w1 hDk hwt hJ
        obtain ⟨h10, e8⟩ := hJ.e 11 (hwt 11 (List.mem_of_elem_eq_true (by kernel_rfl))) (by decide)
        obtain ⟨ya', yc', za', zc', ea, _⟩ := hJ.l h10
        have e9 : xs 11 = .tuple #[.agg #[.int .i64 (O.kOf xpl k (Lk.length + 1)), .string ⟨#[]⟩, .string ⟨#[]⟩, .string xp, .slice ya' (Lk.length + 1) yc', .slice za' (Lk.length + 1) zc'], .int .i64 0] := by rw [e8, ea]; rfl
        clear e8
        have HEA := hid ea
        rw [e9]
        have HJ := hid hJ
        clear hDk hwt hJ ea e9
        go_wp2_with fail
        first | exact ⟨.agg #[.int .i64 (O.kOf xpl k (Lk.length + 1)), .string ⟨#[]⟩, .string ⟨#[]⟩, .string xp, .slice ya' (Lk.length + 1) yc', .slice za' (Lk.length + 1) zc'], by kernel_rfl, fun q hq => by obtain rfl := hq rfl; exact GJ.dep HJ.out h10 (by decide) (by decide) (by decide) (by rw [HEA.out]; rfl) (fun j h => absurd h (by simp))⟩ | exact ⟨.agg #[.int .i64 (O.kOf xpl k (Lk.length + 1)), .string ⟨#[]⟩, .string ⟨#[]⟩, .string xp, .slice ya' (Lk.length + 1) yc', .slice za' (Lk.length + 1) zc'], by kernel_rfl, GJ.dep HJ.out h10 (by decide) (by decide) (by decide) (by rw [HEA.out]; rfl) (fun j h => absurd h (by simp))⟩
      · intro D xs w1 hDk hwt hJ
        obtain ⟨h10, e8⟩ := hJ.e 11 (hwt 11 (List.mem_of_elem_eq_true (by kernel_rfl))) (by decide)
        obtain ⟨ya', yc', za', zc', ea, _⟩ := hJ.l h10
        have e9 : xs 11 = .tuple #[.agg #[.int .i64 (O.kOf xpl k (Lk.length + 1)), .string ⟨#[]⟩, .string ⟨#[]⟩, .string xp, .slice ya' (Lk.length + 1) yc', .slice za' (Lk.length + 1) zc'], .int .i64 0] := by rw [e8, ea]; rfl
        clear e8
        have HEA := hid ea
        rw [e9]
        have HJ := hid hJ
        clear hDk hwt hJ ea e9
        go_wp2_with fail
        first | exact ⟨.int .i64 0, by kernel_rfl, fun q hq => by obtain rfl := hq rfl; exact GJ.dep HJ.out h10 (by decide) (by decide) (by decide) (by rw [HEA.out]; rfl) (fun j h => absurd h (by simp))⟩ | exact ⟨.int .i64 0, by kernel_rfl, GJ.dep HJ.out h10 (by decide) (by decide) (by decide) (by rw [HEA.out]; rfl) (fun j h => absurd h (by simp))⟩
      · intro D xs w1 hDk hwt hJ
        have hD : D 14 = false := hDk
        obtain ⟨h10, e8⟩ := hJ.e 12 (hwt 12 (List.mem_of_elem_eq_true (by kernel_rfl))) (by decide)
        obtain ⟨ya', yc', za', zc', ea, _⟩ := hJ.l h10
        have e9 : xs 12 = .agg #[.int .i64 (O.kOf xpl k (Lk.length + 1)), .string ⟨#[]⟩, .string ⟨#[]⟩, .string xp, .slice ya' (Lk.length + 1) yc', .slice za' (Lk.length + 1) zc'] := by rw [e8, ea]; rfl
        have hc := hJ.c
        rw [hD] at hc
        simp only [cond_false] at hc
        have HC := hid hc
        have q0 := cell_of hc 0; have q1 := cell_of hc 1; have q2 := cell_of hc 2; have q3 := cell_of hc 3; have q4 := cell_of hc 4; have q5 := cell_of hc 5; clear hc
        have qf := free_of HC.out
        have HJ := hid hJ
        have HEA := hid ea
        rw [e9]
        clear hDk hwt hJ ea e8 e9
        go_wp2_with fail
        obtain ⟨m1, m2⟩ := O.set6_at (.int .i64 (O.kOf xpl k (Lk.length + 1))) (.string ⟨#[]⟩) (.string ⟨#[]⟩) (.string xp) (.slice ya' (Lk.length + 1) yc') (.slice za' (Lk.length + 1) zc') HC.out
        exact ⟨by kernel_rfl, fun q => GJ.store turnF_keeps HJ.out h10 (by decide) (by decide) (by decide) m2 (by rw [HEA.out]; exact m1) (fun j h => absurd h (by simp))⟩
    case hend =>
      intro D xs w8 hD hJ
      obtain ⟨ya', yc', za', zc', ea, hN8, _, _⟩ := hJ.l (hD 10 (by omega))
      have hc := hJ.c
      rw [hD 14 (by omega), ea] at hc
      simp only [cond_true, tupAt] at hc
      have hc2 : w8.heap[u]? = some (.cells #[.int .i64 (O.kOf xpl k (Lk.length + 1)), .string ⟨#[]⟩, .string ⟨#[]⟩, .string xp, .slice ya' (Lk.length + 1) yc', .slice za' (Lk.length + 1) zc'] 53 (0, 0)) := hc
      have hM1 := hJ.m
      have HT8 := hid (HT7.out.mod (S := (· = u)) hM1 (show ¬ t = u by have := HU.out; omega) (show ¬ sb = u by have := HU.out; omega) (show ¬ sg = u by have := HU.out; omega) (show ¬ kb = u by have := HU.out; omega) (show ¬ km = u by have := HU.out; omega))
      have HP8 := hid (HP7.out.mod hM1 ⟨HUD.out.2.2.2.1, HUD.out.1, HUD.out.2.1, HUD.out.2.2.2.2⟩)
      have HU8 := hid hc2
      have HM8 : Hid (Mod (TOwn sg km) w w8) := hid (HM7.out.trans hM1 (fun i hi e => by have : i = u := e; have := HU.out; omega))
      have HN9 := hid hN8
      have hns : ¬ rb = sg ∧ ¬ u = sg := by have := HU.out; have := HP7.out.l; omega
      have HNS := hid hns
      have c1 := cell_of HP8.out.c 1
      clear hD hJ ea hc hc2 hM1 hN8 hns
      dsimp only [List.take, dsts, fill, List.drop]
      go_wp2_with fail
      refine wp_region_seqI 6 (Turn 5 (SetJ w8 t sb sg kb km (l.set j ⟨true, (⟨1, c, v, ⟨#[]⟩, ⟨none, 0, 0⟩, ⟨none, 0, 0⟩, false, false⟩ : Nd), pj.gen + 1⟩) (K.addL L rr).2 tk) (SetJ w8 t sb sg kb km ((l.set j ⟨true, (⟨1, c, v, ⟨#[]⟩, ⟨none, 0, 0⟩, ⟨none, 0, 0⟩, false, false⟩ : Nd), pj.gen + 1⟩).set ir (⟨true, ⟨(O.kOf xpl k (Lk.length + 1)), ⟨#[]⟩, ⟨#[]⟩, xp, ⟨ya', Lk.length + 1, yc'⟩, ⟨za', Lk.length + 1, zc'⟩, xpl, xdi⟩, r.2⟩ : Cel Nd)) (K.addL L rr).2 tk)) (by kernel_rfl) (by kernel_rfl) (by kernel_rfl) (Turn.start ⟨(Mod.refl (· = sg) w8).drew, HT8.out.keep (Below.refl _ _).drew⟩) ?_
      dsimp only [List.take]
      iterate 5
        refine Seq.calm (a' := ?_) (by decide) ?_ ?_ ?_
        rotate_left
        ·
          intro w1 hw1
          have hM : Mod (· = sg) w8 w1 := hw1.elim SetJ.m SetJ.m
          have hr := (hM.block rb (lt_of_block HP8.out.r) HNS.out.1).trans HP8.out.r
          have ho := (hM.block u (lt_of_block HU8.out) HNS.out.2).trans HU8.out
          have n0 := cell_of hr 0
          have n1 := cell_of hr 1
          have o0 := cell_of ho 0
          have o1 := cell_of ho 1
          have o2 := cell_of ho 2
          have o3 := cell_of ho 3
          have o4 := cell_of ho 4
          have o5 := cell_of ho 5
          clear hM hr ho hw1
          go_wp2_with (fail)
          first | (refine ⟨?_, id, id⟩; exact rfl) | (refine ⟨?_, fail⟩; exact rfl)
        · kernel_rfl
      refine Seq.turn (a' := ?_) ?_ ?_ ?_
      rotate_left
      ·
        intro w1 hw1
        have HM := hid hw1.m
        have HTT := hid hw1.t
        clear hw1
        go_wp2_with (go_at_call 39; refine (pset_at r.1 r.2 ((O.kOf xpl k (Lk.length + 1)) : Nat) ⟨#[]⟩ ⟨#[]⟩ xp ya' za' (Lk.length + 1) yc' (Lk.length + 1) zc' w1 HTT.out HL7.out).mono ?_; rintro e w2 ⟨rfl, hT, hX⟩)
        refine ⟨?_, HM.out.trans hX (fun _ _ h => h), hT⟩
        exact rfl
      · kernel_rfl
      iterate 0
        refine Seq.calm (a' := ?_) (by decide) ?_ ?_ ?_
        rotate_left
        ·
          intro w1 hw1
          have hM : Mod (· = sg) w8 w1 := hw1.elim SetJ.m SetJ.m
          have hr := (hM.block rb (lt_of_block HP8.out.r) HNS.out.1).trans HP8.out.r
          have ho := (hM.block u (lt_of_block HU8.out) HNS.out.2).trans HU8.out
          have n0 := cell_of hr 0
          have n1 := cell_of hr 1
          have o0 := cell_of ho 0
          have o1 := cell_of ho 1
          have o2 := cell_of ho 2
          have o3 := cell_of ho 3
          have o4 := cell_of ho 4
          have o5 := cell_of ho 5
          clear hM hr ho hw1
          go_wp2_with (fail)
          first | (refine ⟨?_, id, id⟩; exact rfl) | (refine ⟨?_, fail⟩; exact rfl)
        · kernel_rfl
      refine SeqI.nil ?_
      intro D w1 hD hI
      replace hI := hI.done (hD 5 (by omega))
      clear hD
      dsimp only [List.drop]
      have HI := hid hI
      clear hI
      go_wp2_with fail
      go_ret2
      have hI := HI.out
      have hMt : Mod (TOwn sg km) w w1 := HM8.out.trans hI.m (fun _ _ h => .inl h)
      have hN9 := HN9.out
      have hno : ∀ k', k' = sg → NoRow w8 k' := fun k' e => HT8.out.noRow k' (.inl e)
      have hN10 : O.NodeIn w1 (O.kOf xpl k (Lk.length + 1)) xp ya' (Lk.length + 1) yc' za' (Lk.length + 1) zc' (insK Lk (⟨s.at_, j, pj.gen + 1⟩ : Kd)) := ⟨O.own_mod hN9.b hI.m (fun k' hk hs => own_not hN9.b (.inl rfl) hk (hno k' hs)), O.own_mod hN9.z hI.m (fun k' hk hs => own_not hN9.z (.inr rfl) hk (hno k' hs)), hN9.k1, hN9.k2, hN9.p, hN9.len, hN9.rise, hN9.ok⟩
      exact ⟨rfl, ⟨_, hI.t, Rel.set (x := ⟨(O.kOf xpl k (Lk.length + 1)), ⟨#[]⟩, ⟨#[]⟩, xp, ⟨ya', Lk.length + 1, yc'⟩, ⟨za', Lk.length + 1, zc'⟩, xpl, xdi⟩) (q := ⟨.inner (O.kOf xpl k (Lk.length + 1)) xp (insK Lk (⟨s.at_, j, pj.gen + 1⟩ : Kd)), xpl, xdi⟩) (Rel.set (x := (⟨1, c, v, ⟨#[]⟩, ⟨none, 0, 0⟩, ⟨none, 0, 0⟩, false, false⟩ : Nd)) (q := ⟨.leaf c v, false, false⟩) (HR.out.mod hMt HT.out.noRow) true (fun _ => ⟨rfl, rfl, rfl, rfl, rfl, rfl, rfl, rfl⟩)) true (fun _ => ⟨rfl, rfl, rfl, rfl, rfl, rfl, hN10, by rw [HN8.out]; exact hmb⟩)⟩, hMt⟩
end Go.Proofs.YtnngicopphiaaaaGreatDoor.T
