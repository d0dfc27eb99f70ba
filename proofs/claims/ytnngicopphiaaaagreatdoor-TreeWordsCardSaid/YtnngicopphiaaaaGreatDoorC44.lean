/- Part 44 of 51 of a proof: lemmas on the functions that it reaches. -/
import Derived.Test.YtnngicopphiaaaaGreatDoorC43
import Derived.Test.YtnngicopphiaaaaGreatDoorC36
namespace Go.Proofs.YtnngicopphiaaaaGreatDoor.T
set_option maxRecDepth 8000
open Go.ChangeShapes Go.WideShapes Go.ChangeAt Go.RowKit Go.Burg
open Go.Burg.Lk
theorem Rel.roomN {w : World} {l : List (Cel Nd)} {P : List (Cel PNd)} (h : Rel w l P) : roomN l = roomN P := by
  have key : ∀ (l : List (Cel Nd)) (P : List (Cel PNd)), l.length = P.length → (∀ (i : Nat) (c : Cel Nd), l[i]? = some c → ∃ p : Cel PNd, P[i]? = some p ∧ p.is = c.is ∧ p.gen = c.gen) → (l.filter Cel.room).length = (P.filter Cel.room).length := by
    intro l
    induction l with
    | nil => intro P hl _; cases P with
      | nil => rfl
      | cons p P => simp at hl
    | cons c l ih =>
      intro P hl hp
      cases P with
      | nil => simp at hl
      | cons p P =>
        obtain ⟨p', e, h1, h2⟩ := hp 0 c rfl
        simp at e
        subst e
        have hr : c.room = p.room := by unfold Cel.room; rw [h1, h2]
        have := ih P (by simpa using hl) (fun i c' hc' => hp (i + 1) c' (by simpa using hc'))
        cases hb : p.room <;> simp [hr, hb, this]
  exact key l P h.len (fun i c hc => by obtain ⟨p, h1, h2, h3, _⟩ := h.at_ i c hc; exact ⟨p, h1, h2, h3⟩)
set_option maxRecDepth 20000 in
set_option maxHeartbeats 8000000 in
theorem Put_fork3 {t sb sg kb km i ir j : Nat} {l : List (Cel Nd)} {P P2 : List (Cel PNd)} {L L2 : List (RefK × Wd)} {tk : Int} {slot gen : Int} {c v : ByteArray} {q qr : PNd} {s : SpotP} {r : Int × Int} {pj : Cel PNd} (w : World) (h : TreeAt w t sb sg kb km l L tk) (hR : Rel w l P) (hr : RoomsAt w) (hc : Coded c) (hv : v.size ≤ 32) (hq : LiveP P slot gen i q) (hp : q.planted = true) (hs : SeekW P c (slot, gen) 0 [] s) (hw : s.what = 3)
    (h2 : 2 ≤ s.way.length) (hrl : s.way[s.way.length - 1]? = some r) (hqr : LiveP P r.1 r.2 ir qr) (hF : First P (j : Int)) (hj : P[j]? = some pj) (hjr : pj.room = true) (hrm : 2 ≤ roomN P) (h0 : ¬ TOwn sg km 0) (rr : RefK) (hr1 : rr.1.1 = j) (hr2 : rr.1.2 = pj.gen + 1)
    (hfk : ∀ W b g wc, TreeP W t sb sg kb km (P.set j ⟨true, ⟨.leaf c v, false, false⟩, pj.gen + 1⟩) (K.addL L rr).2 tk → RoomsAt W → SpotAt W b g wc s → ¬ TOwn sg km b ∧ ¬ TOwn sg km g → Calls Tryz.prog 40 #[.pointer (some ⟨t, 0, none⟩), .pointer (some ⟨b, 0, none⟩), .string c, .agg #[.int .i64 j, .int .u32 (pj.gen + 1)]] W fun e w' => e = .returned (.tuple #[]) ∧ TreeP w' t sb sg kb km P2 L2 tk ∧ Mod (TOwn sg km) W w') :
    Calls Tryz.prog 16 #[.pointer (some ⟨t, 0, none⟩), .agg #[.int .i64 slot, .int .u32 gen], .string c, .string v] w fun e w' => e = .returned (.tuple #[.slice none 0 0, .int .i64 0]) ∧ TreeP w' t sb sg kb km P2 L2 tk ∧ Mod (TOwn sg km) w w' := by
  have hB0 : Below w.heap.size w (w.alloc (.cells #[.int .i64 slot, .int .u32 gen] 30 (0, 0))) := (Below.refl _ _).alloc (Nat.le_refl _) _
  have HPL := hid (Plan_put3 (w.alloc (.cells #[.int .i64 slot, .int .u32 gen] 30 (0, 0))) (h.keep hB0) (hR.keep hB0) (hr.keep hB0) hc hq hp hs hw 2 [] 2 (fun w1 b g wc hb1 hsa hwc => (split_at hsa h2 hwc).mono (fun e w' h => ⟨none, 0, h.1, World.ownsRow_nil _ _ _ _, h.2⟩)))
  have HQR := hid hqr
  have HFK := hid hfk
  have H0 := hid h0
  have HF := hid (And.intro hF (And.intro hj (And.intro hjr (And.intro hr1 hr2))))
  clear hqr hfk h0 hF hj hjr hr1 hr2 hB0
  have b0 := heap_new w (.cells #[.int .i64 slot, .int .u32 gen] 30 (0, 0))
  have hB : Below w.heap.size w (w.alloc (.cells #[.int .i64 slot, .int .u32 gen] 30 (0, 0))) := (Below.refl _ _).alloc (Nat.le_refl _) _
  have dv : decide ((v.size : Int) > 32) = false := by simp; omega
  have HWM : Hid (s.way.length ≤ 100) := hid (by have h1 := SeekW.way_le hs; have h2 := hc.size; simp only [List.length_nil] at h1; omega)
  have HSKA := hid (fun w1 (hb : Below w.heap.size w w1) => Seek_at w1 (h.keep hb) (hR.keep hb) (hr.keep hb) hc hq hp hs)
  have hrml : roomN l = roomN P := hR.roomN
  have HLT := hid (And.intro (lt_of_block h.ht) (And.intro h.hs.blt (And.intro h.hs.glt h.hk.lt)))
  have HT := hid h
  have HR := hid hR
  have HRM := hid hr
  have HWH := hid hw
  have HS := hid hs
  have HRL := hid hrl
  have HTP : Hid (TreeP w t sb sg kb km P L tk) := hid ⟨l, h, hR⟩
  have d6 : decide (((roomN l : Nat) : Int) < 2) = false := by rw [hrml]; simp; omega
  clear hrml hR hr hc hq hp hs hw hrl h
  go_enter Tryz.func16, Tryz.ntmps16
  go_wp2_with ((go_at_call 17; refine HPL.out.mono ?_; rintro e w2 ⟨g, wc, da, dc, rfl, how, hod, hb2⟩; unfold lastV; go_loud (have h0 := (hb2.block _ (lt_of_block b0)).trans b0; have hc2 := heap_new w2 (.cells #[(.slice (some ⟨g, (s.way.length - 2) * 2, none⟩) 2 (wc - (s.way.length - 2))), .slice da 0 dc, .int .i64 2] 47 (0, 0)); have hbc : Below w2.heap.size w2 (w2.alloc (.cells #[(.slice (some ⟨g, (s.way.length - 2) * 2, none⟩) 2 (wc - (s.way.length - 2))), .slice da 0 dc, .int .i64 2] 47 (0, 0))) := (Below.refl _ _).alloc (Nat.le_refl _) _; have hbw2 := hB.trans (hb2.mono hB.size); have HB2 := hid (hbw2.trans (hbc.mono hbw2.size)); have HC2 := hid hc2; have H02 := hid ((hbc.block _ (lt_of_block h0)).trans h0); have HV0 := hid (show w.heap.size ≤ w2.heap.size from hbw2.size); clear h0 hc2 hbc hbw2 how hod hb2)))
  generalize hWA : w2.alloc (.cells #[(.slice (some ⟨g, (s.way.length - 2) * 2, none⟩) 2 (wc - (s.way.length - 2))), .slice da 0 dc, .int .i64 2] 47 (0, 0)) = WA at *
  generalize w2.heap.size = vb at *
  have HTA := hid (HT.out.keep HB2.out)
  clear hWA
  refine wp_region_seq 10 (fun w1 => Below (WA).heap.size (WA) w1) (by kernel_rfl) (by kernel_rfl) (by kernel_rfl) ⟨rfl, rfl, rfl, Nat.le_refl _, fun _ _ => rfl⟩ ?_
  dsimp only [List.take]
  iterate 10
    refine Seq.cons (a' := ?_) ?_ ?_ ?_
    rotate_left
    ·
      intro w1 hw1
      have t0 := cell_of (HTA.out.keep hw1).ht 0; have c2 := cell_of (blk_below HC2.out hw1 (lt_of_block HC2.out)) 2
      go_wp2_with (go_at_call 35; refine (S.left_any _ (HTA.out.keep hw1).hs).mono ?_; rintro e w' ⟨rfl, hb⟩)
      refine ⟨?_, by first | assumption | (simpa using below_chain hw1 hb hw1.size)⟩
      exact rfl
    · kernel_rfl
  refine SeqI.nil ?_
  intro _ w1 _ hw1
  dsimp only [List.drop]
  have hbw := HB2.out.trans (hw1.mono HB2.out.size)
  have h02 := blk_below H02.out hw1 (lt_of_block H02.out)
  have a0 := cell_of h02 0
  have a1 := cell_of h02 1
  have HSK := hid (HSKA.out _ hbw)
  have HBW := hid hbw
  clear hw1 h02 hbw HPL H02 HC2 HB2 HTA
  go_wp2_with (first | (go_at_call 36; refine HSK.out.mono ?_; rintro e w4 ⟨wa, wc4, rfl, how, hb4⟩; rw [HWH.out]; go_loud (obtain ⟨g4, rfl, lg, _⟩ := O.own_cells (own_le how (Nat.zero_le _)) (SeekW.way_pos HS.out); have hg4 := (show _ ≤ g4 from (O.own_ge how rfl).1); have hsp4 := heap_new w4 (.cells #[.int .i64 3, .slice (some ⟨g4, 0, none⟩) s.way.length wc4, .int .i64 s.at_, .int .i64 s.depth] 79 (0, 0)); have hbs : Below w4.heap.size w4 (w4.alloc (.cells #[.int .i64 3, .slice (some ⟨g4, 0, none⟩) s.way.length wc4, .int .i64 s.at_, .int .i64 s.depth] 79 (0, 0))) := (Below.refl _ _).alloc (Nat.le_refl _) _; have hSA : SpotAt (w4.alloc (.cells #[.int .i64 3, .slice (some ⟨g4, 0, none⟩) s.way.length wc4, .int .i64 s.at_, .int .i64 s.depth] 79 (0, 0))) w4.heap.size g4 wc4 s := ⟨(by rw [HWH.out]; exact hsp4), own_le (O.own_mod how (O.mod_of_below (S := fun _ => False) hbs) (fun _ _ h => h)) (Nat.zero_le _), SeekW.way_pos HS.out, HWM.out⟩; have HUP := hid (up_at (k := 0) hSA (SeekW.way_pos HS.out) (by simpa using HRL.out)); have hb14 := hb4.trans (hbs.mono hb4.size); have HB4 := hid (HBW.out.trans (hb14.mono HBW.out.size)); have HSA := hid hSA; have HG4 := hid (show w.heap.size ≤ g4 by have := HBW.out.size; omega); have HL4 := hid (show w.heap.size ≤ w4.heap.size by have := HBW.out.size; have := hb4.size; omega); clear how hb4 lg hg4 hsp4 hbs hSA hb14)) | (go_at_call 37; refine HUP.out.mono ?_; rintro e w5 ⟨rfl, hb5⟩; go_loud (have hr5 := heap_new w5 (.cells #[.int .i64 r.1, .int .u32 r.2] 30 (0, 0)); have hbr : Below w5.heap.size w5 (w5.alloc (.cells #[.int .i64 r.1, .int .u32 r.2] 30 (0, 0))) := (Below.refl _ _).alloc (Nat.le_refl _) _; have hb45 := hb5.trans (hbr.mono hb5.size); have HSP := hid (HSA.out.keep hb45); have R5 := hid hr5; have HBP := hid (HB4.out.trans (hb45.mono HB4.out.size)); have HL5 := hid (show w.heap.size ≤ w5.heap.size by have := HB4.out.size; have := hb5.size; omega); clear hr5 hbr hb45 hb5)))
  clear HUP HB4 HSA HSK HBW a0 a1
  generalize hWX : w5.alloc (.cells #[.int .i64 r.1, .int .u32 r.2] 30 (0, 0)) = W at *
  generalize w4.heap.size = sp at *
  generalize w5.heap.size = rb at *
  clear hWX
  obtain ⟨⟨xis, ⟨kn, cd, vl, xp, ⟨ya, yn, yc⟩, ⟨za, zn, zc⟩, xpl, xdi⟩, xgn⟩, hLx, _, _, _⟩ := HR.out.live HQR.out
  have HNW := hid (fun w1 (hb : Below W.heap.size W w1) => node_at r.1 r.2 w1 (HT.out.keep (HBP.out.trans (hb.mono HBP.out.size))) hLx)
  clear hLx
  have HOK := hid (NJOk.calm (W0 := W) (T := 53) (z := #[.int .i64 0, .string ⟨#[]⟩, .string ⟨#[]⟩, .string ⟨#[]⟩, .slice none 0 0, .slice none 0 0]) (o := #[.int .i64 kn, .string cd, .string vl, .string xp, .slice ya yn yc, .slice za zn zc]) (dl := fun _ => []))
  refine wp_region_val 7 (NJ (fun _ => False) (fun _ => True) (fun _ => True) (fun _ _ _ => True) W 53 #[.int .i64 0, .string ⟨#[]⟩, .string ⟨#[]⟩, .string ⟨#[]⟩, .slice none 0 0, .slice none 0 0] (fun _ => #[.int .i64 kn, .string cd, .string vl, .string xp, .slice ya yn yc, .slice za zn zc]) [] [] 99 5 6 [0, 1, 2, 3, 4] [] (fun _ => []) (fun j => ([.pointer (some ⟨t, 0, none⟩), .pointer (some ⟨t, 0, none⟩), .pointer (some ⟨t, 0, none⟩), .agg #[.int .i64 r.1, .int .u32 r.2], .agg #[.int .i64 kn, .string cd, .string vl, .string xp, .slice ya yn yc, .slice za zn zc]] : List Value)[j]?.getD undef) (fun _ _ => undef)) (by kernel_rfl) (by kernel_rfl) (by kernel_rfl) (NJ.start trivial) ?_ ?_
  ·
    dsimp only [List.take, AllOpsI, dsts, fill]
    refine ⟨?_, ?_, ?_, ?_, ?_, ?_, ?_⟩
    · intro D xs w1 hDk hwt hJ
      have HJ := hid hJ
      have HWT := hid hwt
      have HD := hid hDk
      clear hDk hwt hJ
      go_wp2_with (fail)
      first | exact ⟨.pointer (some ⟨t, 0, none⟩), by kernel_rfl, fun q hq => by obtain rfl := hq rfl; exact NJ.calm HOK.out HJ.out HD.out (by decide) (by decide) (by decide) (by decide) (by decide) (by decide) (fun _ => rfl) (Below.refl _ _)⟩ | exact ⟨.pointer (some ⟨t, 0, none⟩), by kernel_rfl, NJ.calm HOK.out HJ.out HD.out (by decide) (by decide) (by decide) (by decide) (by decide) (by decide) (fun _ => rfl) (Below.refl _ _)⟩
    · intro D xs w1 hDk hwt hJ
      have ee : xs 0 = .pointer (some ⟨t, 0, none⟩) := hJ.v 0 (hwt 0 (List.mem_of_elem_eq_true (by kernel_rfl))) (by decide)
      rw [ee]
      clear ee
      have HJ := hid hJ
      have HWT := hid hwt
      have HD := hid hDk
      clear hDk hwt hJ
      go_wp2_with (fail)
      first | exact ⟨.pointer (some ⟨t, 0, none⟩), by kernel_rfl, fun q hq => by obtain rfl := hq rfl; exact NJ.calm HOK.out HJ.out HD.out (by decide) (by decide) (by decide) (by decide) (by decide) (by decide) (fun _ => rfl) (Below.refl _ _)⟩ | exact ⟨.pointer (some ⟨t, 0, none⟩), by kernel_rfl, NJ.calm HOK.out HJ.out HD.out (by decide) (by decide) (by decide) (by decide) (by decide) (by decide) (fun _ => rfl) (Below.refl _ _)⟩
    · intro D xs w1 hDk hwt hJ
      have ee : xs 1 = .pointer (some ⟨t, 0, none⟩) := hJ.v 1 (hwt 1 (List.mem_of_elem_eq_true (by kernel_rfl))) (by decide)
      rw [ee]
      clear ee
      have HJ := hid hJ
      have HWT := hid hwt
      have HD := hid hDk
      clear hDk hwt hJ
      go_wp2_with (fail)
      first | exact ⟨.pointer (some ⟨t, 0, none⟩), by kernel_rfl, fun q hq => by obtain rfl := hq rfl; exact NJ.calm HOK.out HJ.out HD.out (by decide) (by decide) (by decide) (by decide) (by decide) (by decide) (fun _ => rfl) (Below.refl _ _)⟩ | exact ⟨.pointer (some ⟨t, 0, none⟩), by kernel_rfl, NJ.calm HOK.out HJ.out HD.out (by decide) (by decide) (by decide) (by decide) (by decide) (by decide) (fun _ => rfl) (Below.refl _ _)⟩
    · intro D xs w1 hDk hwt hJ
      have hr := ((hJ.m.below (Nat.le_refl _) (fun _ _ e => e)).block _ (lt_of_block R5.out)).trans R5.out; have n0 := cell_of hr 0; have n1 := cell_of hr 1; clear hr
      have HJ := hid hJ
      have HWT := hid hwt
      have HD := hid hDk
      clear hDk hwt hJ
      go_wp2_with (fail)
      first | exact ⟨.agg #[.int .i64 r.1, .int .u32 r.2], by kernel_rfl, fun q hq => by obtain rfl := hq rfl; exact NJ.calm HOK.out HJ.out HD.out (by decide) (by decide) (by decide) (by decide) (by decide) (by decide) (fun _ => rfl) (Below.refl _ _)⟩ | exact ⟨.agg #[.int .i64 r.1, .int .u32 r.2], by kernel_rfl, NJ.calm HOK.out HJ.out HD.out (by decide) (by decide) (by decide) (by decide) (by decide) (by decide) (fun _ => rfl) (Below.refl _ _)⟩
    · intro D xs w1 hDk hwt hJ
      have ee : xs 2 = .pointer (some ⟨t, 0, none⟩) := hJ.v 2 (hwt 2 (List.mem_of_elem_eq_true (by kernel_rfl))) (by decide)
      rw [ee]
      clear ee
      have ee : xs 3 = .agg #[.int .i64 r.1, .int .u32 r.2] := hJ.v 3 (hwt 3 (List.mem_of_elem_eq_true (by kernel_rfl))) (by decide)
      rw [ee]
      clear ee
      have HND := hid (HNW.out w1 (hJ.m.below (Nat.le_refl _) (fun _ _ e => e)))
      have HJ := hid hJ
      have HWT := hid hwt
      have HD := hid hDk
      clear hDk hwt hJ
      go_wp2_with (go_at_call 38; refine HND.out.mono ?_; rintro e w2 ⟨rfl, hb2⟩)
      first | exact ⟨.agg #[.int .i64 kn, .string cd, .string vl, .string xp, .slice ya yn yc, .slice za zn zc], by kernel_rfl, fun q hq => by obtain rfl := hq rfl; exact NJ.calm HOK.out HJ.out HD.out (by decide) (by decide) (by decide) (by decide) (by decide) (by decide) (fun _ => rfl) (hb2)⟩ | exact ⟨.agg #[.int .i64 kn, .string cd, .string vl, .string xp, .slice ya yn yc, .slice za zn zc], by kernel_rfl, NJ.calm HOK.out HJ.out HD.out (by decide) (by decide) (by decide) (by decide) (by decide) (by decide) (fun _ => rfl) (hb2)⟩
    · intro D xs w1 hDk hwt hJ
      have HJ := hid hJ
      have HWT := hid hwt
      have HD := hid hDk
      clear hDk hwt hJ
      go_wp2_with fail
      first | exact ⟨.pointer (some ⟨w1.heap.size, 0, none⟩), by kernel_rfl, fun q hq => by obtain rfl := hq rfl; exact NJ.alloc HOK.out HJ.out HD.out (by decide) (by decide) (by decide) (by decide) (by decide)⟩ | exact ⟨.pointer (some ⟨w1.heap.size, 0, none⟩), by kernel_rfl, NJ.alloc HOK.out HJ.out HD.out (by decide) (by decide) (by decide) (by decide) (by decide)⟩
    · intro D xs w1 hDk hwt hJ
      have hA := hwt 5 (List.mem_of_elem_eq_true (by kernel_rfl))
      obtain ⟨b0, hb0, eb0, hc0⟩ := hJ.a hA
      rw [eb0]
      have HEB := hid eb0
      clear eb0
      rw [show D 6 = false from hDk] at hc0
      simp only [cond_false] at hc0
      have ee : xs 4 = .agg #[.int .i64 kn, .string cd, .string vl, .string xp, .slice ya yn yc, .slice za zn zc] := hJ.v 4 (hwt 4 (List.mem_of_elem_eq_true (by kernel_rfl))) (by decide)
      rw [ee]
      clear ee
      have q0 := cell_of hc0 0
      have q1 := cell_of hc0 1
      have q2 := cell_of hc0 2
      have q3 := cell_of hc0 3
      have q4 := cell_of hc0 4
      have q5 := cell_of hc0 5
      have qf := free_of hc0
      have HC := hid hc0
      clear hc0
      have HJ := hid hJ
      have HWT := hid hwt
      have HD := hid hDk
      clear hDk hwt hJ
      go_wp2_with fail
      obtain ⟨m1, m2⟩ := (set6_mod _ _ _ _ _ _ HC.out)
      first | exact ⟨undef, by kernel_rfl, fun q _ => NJ.store HOK.out HJ.out HD.out (by decide) (by decide) (by decide) (by decide) (by decide) hA ((fun k h => by simp at h)) HEB.out m2 m1⟩ | exact ⟨by kernel_rfl, fun q => NJ.store HOK.out HJ.out HD.out (by decide) (by decide) (by decide) (by decide) (by decide) hA ((fun k h => by simp at h)) HEB.out m2 m1⟩
  intro D xs w7 hD hJ
  obtain ⟨u, hu, eu, hc⟩ := hJ.a (hD 5 (by omega))
  rw [hD 6 (by omega)] at hc
  simp only [cond_true] at hc
  have HBu := hid (hJ.m.below (Nat.le_refl _) (fun _ _ e => e))
  have HOu := hid hc
  have HLu := hid hu
  dsimp only [List.take, dsts, fill, List.drop]
  rw [eu]
  clear hD hJ eu hc hu HOK
  have HB7 := hid (HBP.out.trans (HBu.out.mono HBP.out.size))
  have HSP7 := hid (HSP.out.keep HBu.out)
  have HTK := hid (take_leaf c v w7 (HTP.out.keep HB7.out) HF.out.1 HF.out.2.1 HF.out.2.2.1 rr HF.out.2.2.2.1 HF.out.2.2.2.2)
  have hlt := HLT.out
  have hg4 := HG4.out
  have hl4 := HL4.out
  have HNT : Hid (¬ TOwn sg km sp ∧ ¬ TOwn sg km g4) := hid (by refine ⟨?_, ?_⟩ <;> rintro (e | e) <;> omega)
  clear hlt hg4 hl4
  have s0 := cell_of HSP7.out.h 0
  rw [HWH.out] at s0
  clear HNW R5 HSP HBP
  go_wp2_with (first | (go_at_call 24; refine HTK.out.mono ?_; rintro e w8 ⟨rfl, hT8, hM8⟩; go_loud (have hsp8 := HSP7.out.mod' hM8 HNT.out.1 HNT.out.2; have hs0 := cell_of (blk_alloc (o' := (.cells #[.int .i64 j, .int .u32 (pj.gen + 1)] 30 (0, 0))) hsp8.h) 0; rw [HWH.out] at hs0; have hb8 : Below w8.heap.size w8 (w8.alloc (.cells #[.int .i64 j, .int .u32 (pj.gen + 1)] 30 (0, 0))) := (Below.refl _ _).alloc (Nat.le_refl _) _; have hM9 := ((Mod.ofBelow (S := TOwn sg km) HB7.out).trans hM8 (fun _ _ h => h)); have hM9 := hM9.trans (mod_below hb8) (fun _ _ h => h); have HFX := hid (HFK.out _ _ _ _ (hT8.keep hb8) (rooms_mod HRM.out hM9 H0.out) (hsp8.keep hb8) HNT.out); have HM9 := hid hM9; clear hT8 hM8 hsp8 hb8 hM9 s0)) | (go_at_call 40; refine HFX.out.mono ?_; rintro e w10 ⟨rfl, hT10, hM10⟩; have HE := hid (And.intro hT10 hM10); clear hT10 hM10))
  refine bodyPost_ret (v := .tuple #[.slice none 0 0, .int .i64 0]) ?hr ?hd ?post
  case hr => kernel_rfl
  case hd => kernel_rfl
  case post => exact ⟨rfl, HE.out.1, HM9.out.trans HE.out.2 (fun _ _ h => h)⟩
set_option maxRecDepth 20000 in
set_option maxHeartbeats 8000000 in
theorem Put_fork4 {t sb sg kb km i ir j : Nat} {l : List (Cel Nd)} {P P2 : List (Cel PNd)} {L L2 : List (RefK × Wd)} {tk : Int} {slot gen : Int} {c v : ByteArray} {q qr : PNd} {s : SpotP} {r : Int × Int} {pj : Cel PNd} (w : World) (h : TreeAt w t sb sg kb km l L tk) (hR : Rel w l P) (hr : RoomsAt w) (hc : Coded c) (hv : v.size ≤ 32) (hq : LiveP P slot gen i q) (hp : q.planted = true) (hs : SeekW P c (slot, gen) 0 [] s) (hw : s.what = 4)
    (h2 : 2 ≤ s.way.length) (hrl : s.way[s.way.length - 1]? = some r) (hqr : LiveP P r.1 r.2 ir qr) (hF : First P (j : Int)) (hj : P[j]? = some pj) (hjr : pj.room = true) (hrm : 2 ≤ roomN P) (h0 : ¬ TOwn sg km 0) (rr : RefK) (hr1 : rr.1.1 = j) (hr2 : rr.1.2 = pj.gen + 1)
    (hfk : ∀ W b g wc, TreeP W t sb sg kb km (P.set j ⟨true, ⟨.leaf c v, false, false⟩, pj.gen + 1⟩) (K.addL L rr).2 tk → RoomsAt W → SpotAt W b g wc s → ¬ TOwn sg km b ∧ ¬ TOwn sg km g → Calls Tryz.prog 40 #[.pointer (some ⟨t, 0, none⟩), .pointer (some ⟨b, 0, none⟩), .string c, .agg #[.int .i64 j, .int .u32 (pj.gen + 1)]] W fun e w' => e = .returned (.tuple #[]) ∧ TreeP w' t sb sg kb km P2 L2 tk ∧ Mod (TOwn sg km) W w') :
    Calls Tryz.prog 16 #[.pointer (some ⟨t, 0, none⟩), .agg #[.int .i64 slot, .int .u32 gen], .string c, .string v] w fun e w' => e = .returned (.tuple #[.slice none 0 0, .int .i64 0]) ∧ TreeP w' t sb sg kb km P2 L2 tk ∧ Mod (TOwn sg km) w w' := by
  have hB0 : Below w.heap.size w (w.alloc (.cells #[.int .i64 slot, .int .u32 gen] 30 (0, 0))) := (Below.refl _ _).alloc (Nat.le_refl _) _
  have HPL := hid (Plan_put4 (w.alloc (.cells #[.int .i64 slot, .int .u32 gen] 30 (0, 0))) (h.keep hB0) (hR.keep hB0) (hr.keep hB0) hc hq hp hs hw 2 [] 2 (fun w1 b g wc hb1 hsa hwc => (split_at hsa h2 hwc).mono (fun e w' h => ⟨none, 0, h.1, World.ownsRow_nil _ _ _ _, h.2⟩)))
  have HQR := hid hqr
  have HFK := hid hfk
  have H0 := hid h0
  have HF := hid (And.intro hF (And.intro hj (And.intro hjr (And.intro hr1 hr2))))
  clear hqr hfk h0 hF hj hjr hr1 hr2 hB0
  have b0 := heap_new w (.cells #[.int .i64 slot, .int .u32 gen] 30 (0, 0))
  have hB : Below w.heap.size w (w.alloc (.cells #[.int .i64 slot, .int .u32 gen] 30 (0, 0))) := (Below.refl _ _).alloc (Nat.le_refl _) _
  have dv : decide ((v.size : Int) > 32) = false := by simp; omega
  have HWM : Hid (s.way.length ≤ 100) := hid (by have h1 := SeekW.way_le hs; have h2 := hc.size; simp only [List.length_nil] at h1; omega)
  have HSKA := hid (fun w1 (hb : Below w.heap.size w w1) => Seek_at w1 (h.keep hb) (hR.keep hb) (hr.keep hb) hc hq hp hs)
  have hrml : roomN l = roomN P := hR.roomN
  have HLT := hid (And.intro (lt_of_block h.ht) (And.intro h.hs.blt (And.intro h.hs.glt h.hk.lt)))
  have HT := hid h
  have HR := hid hR
  have HRM := hid hr
  have HWH := hid hw
  have HS := hid hs
  have HRL := hid hrl
  have HTP : Hid (TreeP w t sb sg kb km P L tk) := hid ⟨l, h, hR⟩
  have d6 : decide (((roomN l : Nat) : Int) < 2) = false := by rw [hrml]; simp; omega
  clear hrml hR hr hc hq hp hs hw hrl h
  go_enter Tryz.func16, Tryz.ntmps16
  go_wp2_with ((go_at_call 17; refine HPL.out.mono ?_; rintro e w2 ⟨g, wc, da, dc, rfl, how, hod, hb2⟩; unfold lastV; go_loud (have h0 := (hb2.block _ (lt_of_block b0)).trans b0; have hc2 := heap_new w2 (.cells #[(.slice (some ⟨g, (s.way.length - 2) * 2, none⟩) 2 (wc - (s.way.length - 2))), .slice da 0 dc, .int .i64 2] 47 (0, 0)); have hbc : Below w2.heap.size w2 (w2.alloc (.cells #[(.slice (some ⟨g, (s.way.length - 2) * 2, none⟩) 2 (wc - (s.way.length - 2))), .slice da 0 dc, .int .i64 2] 47 (0, 0))) := (Below.refl _ _).alloc (Nat.le_refl _) _; have hbw2 := hB.trans (hb2.mono hB.size); have HB2 := hid (hbw2.trans (hbc.mono hbw2.size)); have HC2 := hid hc2; have H02 := hid ((hbc.block _ (lt_of_block h0)).trans h0); have HV0 := hid (show w.heap.size ≤ w2.heap.size from hbw2.size); clear h0 hc2 hbc hbw2 how hod hb2)))
  generalize hWA : w2.alloc (.cells #[(.slice (some ⟨g, (s.way.length - 2) * 2, none⟩) 2 (wc - (s.way.length - 2))), .slice da 0 dc, .int .i64 2] 47 (0, 0)) = WA at *
  generalize w2.heap.size = vb at *
  have HTA := hid (HT.out.keep HB2.out)
  clear hWA
  refine wp_region_seq 10 (fun w1 => Below (WA).heap.size (WA) w1) (by kernel_rfl) (by kernel_rfl) (by kernel_rfl) ⟨rfl, rfl, rfl, Nat.le_refl _, fun _ _ => rfl⟩ ?_
  dsimp only [List.take]
  iterate 10
    refine Seq.cons (a' := ?_) ?_ ?_ ?_
    rotate_left
    ·
      intro w1 hw1
      have t0 := cell_of (HTA.out.keep hw1).ht 0; have c2 := cell_of (blk_below HC2.out hw1 (lt_of_block HC2.out)) 2
      go_wp2_with (go_at_call 35; refine (S.left_any _ (HTA.out.keep hw1).hs).mono ?_; rintro e w' ⟨rfl, hb⟩)
      refine ⟨?_, by first | assumption | (simpa using below_chain hw1 hb hw1.size)⟩
      exact rfl
    · kernel_rfl
  refine SeqI.nil ?_
  intro _ w1 _ hw1
  dsimp only [List.drop]
  have hbw := HB2.out.trans (hw1.mono HB2.out.size)
  have h02 := blk_below H02.out hw1 (lt_of_block H02.out)
  have a0 := cell_of h02 0
  have a1 := cell_of h02 1
  have HSK := hid (HSKA.out _ hbw)
  have HBW := hid hbw
  clear hw1 h02 hbw HPL H02 HC2 HB2 HTA
  go_wp2_with (first | (go_at_call 36; refine HSK.out.mono ?_; rintro e w4 ⟨wa, wc4, rfl, how, hb4⟩; rw [HWH.out]; go_loud (obtain ⟨g4, rfl, lg, _⟩ := O.own_cells (own_le how (Nat.zero_le _)) (SeekW.way_pos HS.out); have hg4 := (show _ ≤ g4 from (O.own_ge how rfl).1); have hsp4 := heap_new w4 (.cells #[.int .i64 4, .slice (some ⟨g4, 0, none⟩) s.way.length wc4, .int .i64 s.at_, .int .i64 s.depth] 79 (0, 0)); have hbs : Below w4.heap.size w4 (w4.alloc (.cells #[.int .i64 4, .slice (some ⟨g4, 0, none⟩) s.way.length wc4, .int .i64 s.at_, .int .i64 s.depth] 79 (0, 0))) := (Below.refl _ _).alloc (Nat.le_refl _) _; have hSA : SpotAt (w4.alloc (.cells #[.int .i64 4, .slice (some ⟨g4, 0, none⟩) s.way.length wc4, .int .i64 s.at_, .int .i64 s.depth] 79 (0, 0))) w4.heap.size g4 wc4 s := ⟨(by rw [HWH.out]; exact hsp4), own_le (O.own_mod how (O.mod_of_below (S := fun _ => False) hbs) (fun _ _ h => h)) (Nat.zero_le _), SeekW.way_pos HS.out, HWM.out⟩; have HUP := hid (up_at (k := 0) hSA (SeekW.way_pos HS.out) (by simpa using HRL.out)); have hb14 := hb4.trans (hbs.mono hb4.size); have HB4 := hid (HBW.out.trans (hb14.mono HBW.out.size)); have HSA := hid hSA; have HG4 := hid (show w.heap.size ≤ g4 by have := HBW.out.size; omega); have HL4 := hid (show w.heap.size ≤ w4.heap.size by have := HBW.out.size; have := hb4.size; omega); clear how hb4 lg hg4 hsp4 hbs hSA hb14)) | (go_at_call 37; refine HUP.out.mono ?_; rintro e w5 ⟨rfl, hb5⟩; go_loud (have hr5 := heap_new w5 (.cells #[.int .i64 r.1, .int .u32 r.2] 30 (0, 0)); have hbr : Below w5.heap.size w5 (w5.alloc (.cells #[.int .i64 r.1, .int .u32 r.2] 30 (0, 0))) := (Below.refl _ _).alloc (Nat.le_refl _) _; have hb45 := hb5.trans (hbr.mono hb5.size); have HSP := hid (HSA.out.keep hb45); have R5 := hid hr5; have HBP := hid (HB4.out.trans (hb45.mono HB4.out.size)); have HL5 := hid (show w.heap.size ≤ w5.heap.size by have := HB4.out.size; have := hb5.size; omega); clear hr5 hbr hb45 hb5)))
  clear HUP HB4 HSA HSK HBW a0 a1
  generalize hWX : w5.alloc (.cells #[.int .i64 r.1, .int .u32 r.2] 30 (0, 0)) = W at *
  generalize w4.heap.size = sp at *
  generalize w5.heap.size = rb at *
  clear hWX
  obtain ⟨⟨xis, ⟨kn, cd, vl, xp, ⟨ya, yn, yc⟩, ⟨za, zn, zc⟩, xpl, xdi⟩, xgn⟩, hLx, _, _, _⟩ := HR.out.live HQR.out
  have HNW := hid (fun w1 (hb : Below W.heap.size W w1) => node_at r.1 r.2 w1 (HT.out.keep (HBP.out.trans (hb.mono HBP.out.size))) hLx)
  clear hLx
  have HOK := hid (NJOk.calm (W0 := W) (T := 53) (z := #[.int .i64 0, .string ⟨#[]⟩, .string ⟨#[]⟩, .string ⟨#[]⟩, .slice none 0 0, .slice none 0 0]) (o := #[.int .i64 kn, .string cd, .string vl, .string xp, .slice ya yn yc, .slice za zn zc]) (dl := fun _ => []))
  refine wp_region_val 7 (NJ (fun _ => False) (fun _ => True) (fun _ => True) (fun _ _ _ => True) W 53 #[.int .i64 0, .string ⟨#[]⟩, .string ⟨#[]⟩, .string ⟨#[]⟩, .slice none 0 0, .slice none 0 0] (fun _ => #[.int .i64 kn, .string cd, .string vl, .string xp, .slice ya yn yc, .slice za zn zc]) [] [] 99 5 6 [0, 1, 2, 3, 4] [] (fun _ => []) (fun j => ([.pointer (some ⟨t, 0, none⟩), .pointer (some ⟨t, 0, none⟩), .pointer (some ⟨t, 0, none⟩), .agg #[.int .i64 r.1, .int .u32 r.2], .agg #[.int .i64 kn, .string cd, .string vl, .string xp, .slice ya yn yc, .slice za zn zc]] : List Value)[j]?.getD undef) (fun _ _ => undef)) (by kernel_rfl) (by kernel_rfl) (by kernel_rfl) (NJ.start trivial) ?_ ?_
  ·
    dsimp only [List.take, AllOpsI, dsts, fill]
    refine ⟨?_, ?_, ?_, ?_, ?_, ?_, ?_⟩
    · intro D xs w1 hDk hwt hJ
      have HJ := hid hJ
      have HWT := hid hwt
      have HD := hid hDk
      clear hDk hwt hJ
      go_wp2_with (fail)
      first | exact ⟨.pointer (some ⟨t, 0, none⟩), by kernel_rfl, fun q hq => by obtain rfl := hq rfl; exact NJ.calm HOK.out HJ.out HD.out (by decide) (by decide) (by decide) (by decide) (by decide) (by decide) (fun _ => rfl) (Below.refl _ _)⟩ | exact ⟨.pointer (some ⟨t, 0, none⟩), by kernel_rfl, NJ.calm HOK.out HJ.out HD.out (by decide) (by decide) (by decide) (by decide) (by decide) (by decide) (fun _ => rfl) (Below.refl _ _)⟩
    · intro D xs w1 hDk hwt hJ
      have ee : xs 0 = .pointer (some ⟨t, 0, none⟩) := hJ.v 0 (hwt 0 (List.mem_of_elem_eq_true (by kernel_rfl))) (by decide)
      rw [ee]
      clear ee
      have HJ := hid hJ
      have HWT := hid hwt
      have HD := hid hDk
      clear hDk hwt hJ
      go_wp2_with (fail)
      first | exact ⟨.pointer (some ⟨t, 0, none⟩), by kernel_rfl, fun q hq => by obtain rfl := hq rfl; exact NJ.calm HOK.out HJ.out HD.out (by decide) (by decide) (by decide) (by decide) (by decide) (by decide) (fun _ => rfl) (Below.refl _ _)⟩ | exact ⟨.pointer (some ⟨t, 0, none⟩), by kernel_rfl, NJ.calm HOK.out HJ.out HD.out (by decide) (by decide) (by decide) (by decide) (by decide) (by decide) (fun _ => rfl) (Below.refl _ _)⟩
    · intro D xs w1 hDk hwt hJ
      have ee : xs 1 = .pointer (some ⟨t, 0, none⟩) := hJ.v 1 (hwt 1 (List.mem_of_elem_eq_true (by kernel_rfl))) (by decide)
      rw [ee]
      clear ee
      have HJ := hid hJ
      have HWT := hid hwt
      have HD := hid hDk
      clear hDk hwt hJ
      go_wp2_with (fail)
      first | exact ⟨.pointer (some ⟨t, 0, none⟩), by kernel_rfl, fun q hq => by obtain rfl := hq rfl; exact NJ.calm HOK.out HJ.out HD.out (by decide) (by decide) (by decide) (by decide) (by decide) (by decide) (fun _ => rfl) (Below.refl _ _)⟩ | exact ⟨.pointer (some ⟨t, 0, none⟩), by kernel_rfl, NJ.calm HOK.out HJ.out HD.out (by decide) (by decide) (by decide) (by decide) (by decide) (by decide) (fun _ => rfl) (Below.refl _ _)⟩
    · intro D xs w1 hDk hwt hJ
      have hr := ((hJ.m.below (Nat.le_refl _) (fun _ _ e => e)).block _ (lt_of_block R5.out)).trans R5.out; have n0 := cell_of hr 0; have n1 := cell_of hr 1; clear hr
      have HJ := hid hJ
      have HWT := hid hwt
      have HD := hid hDk
      clear hDk hwt hJ
      go_wp2_with (fail)
      first | exact ⟨.agg #[.int .i64 r.1, .int .u32 r.2], by kernel_rfl, fun q hq => by obtain rfl := hq rfl; exact NJ.calm HOK.out HJ.out HD.out (by decide) (by decide) (by decide) (by decide) (by decide) (by decide) (fun _ => rfl) (Below.refl _ _)⟩ | exact ⟨.agg #[.int .i64 r.1, .int .u32 r.2], by kernel_rfl, NJ.calm HOK.out HJ.out HD.out (by decide) (by decide) (by decide) (by decide) (by decide) (by decide) (fun _ => rfl) (Below.refl _ _)⟩
    · intro D xs w1 hDk hwt hJ
      have ee : xs 2 = .pointer (some ⟨t, 0, none⟩) := hJ.v 2 (hwt 2 (List.mem_of_elem_eq_true (by kernel_rfl))) (by decide)
      rw [ee]
      clear ee
      have ee : xs 3 = .agg #[.int .i64 r.1, .int .u32 r.2] := hJ.v 3 (hwt 3 (List.mem_of_elem_eq_true (by kernel_rfl))) (by decide)
      rw [ee]
      clear ee
      have HND := hid (HNW.out w1 (hJ.m.below (Nat.le_refl _) (fun _ _ e => e)))
      have HJ := hid hJ
      have HWT := hid hwt
      have HD := hid hDk
      clear hDk hwt hJ
      go_wp2_with (go_at_call 38; refine HND.out.mono ?_; rintro e w2 ⟨rfl, hb2⟩)
      first | exact ⟨.agg #[.int .i64 kn, .string cd, .string vl, .string xp, .slice ya yn yc, .slice za zn zc], by kernel_rfl, fun q hq => by obtain rfl := hq rfl; exact NJ.calm HOK.out HJ.out HD.out (by decide) (by decide) (by decide) (by decide) (by decide) (by decide) (fun _ => rfl) (hb2)⟩ | exact ⟨.agg #[.int .i64 kn, .string cd, .string vl, .string xp, .slice ya yn yc, .slice za zn zc], by kernel_rfl, NJ.calm HOK.out HJ.out HD.out (by decide) (by decide) (by decide) (by decide) (by decide) (by decide) (fun _ => rfl) (hb2)⟩
    · intro D xs w1 hDk hwt hJ
      have HJ := hid hJ
      have HWT := hid hwt
      have HD := hid hDk
      clear hDk hwt hJ
      go_wp2_with fail
      first | exact ⟨.pointer (some ⟨w1.heap.size, 0, none⟩), by kernel_rfl, fun q hq => by obtain rfl := hq rfl; exact NJ.alloc HOK.out HJ.out HD.out (by decide) (by decide) (by decide) (by decide) (by decide)⟩ | exact ⟨.pointer (some ⟨w1.heap.size, 0, none⟩), by kernel_rfl, NJ.alloc HOK.out HJ.out HD.out (by decide) (by decide) (by decide) (by decide) (by decide)⟩
    · intro D xs w1 hDk hwt hJ
      have hA := hwt 5 (List.mem_of_elem_eq_true (by kernel_rfl))
      obtain ⟨b0, hb0, eb0, hc0⟩ := hJ.a hA
      rw [eb0]
      have HEB := hid eb0
      clear eb0
      rw [show D 6 = false from hDk] at hc0
      simp only [cond_false] at hc0
      have ee : xs 4 = .agg #[.int .i64 kn, .string cd, .string vl, .string xp, .slice ya yn yc, .slice za zn zc] := hJ.v 4 (hwt 4 (List.mem_of_elem_eq_true (by kernel_rfl))) (by decide)
      rw [ee]
      clear ee
      have q0 := cell_of hc0 0
      have q1 := cell_of hc0 1
      have q2 := cell_of hc0 2
      have q3 := cell_of hc0 3
      have q4 := cell_of hc0 4
      have q5 := cell_of hc0 5
      have qf := free_of hc0
      have HC := hid hc0
      clear hc0
      have HJ := hid hJ
      have HWT := hid hwt
      have HD := hid hDk
      clear hDk hwt hJ
      go_wp2_with fail
      obtain ⟨m1, m2⟩ := (set6_mod _ _ _ _ _ _ HC.out)
      first | exact ⟨undef, by kernel_rfl, fun q _ => NJ.store HOK.out HJ.out HD.out (by decide) (by decide) (by decide) (by decide) (by decide) hA ((fun k h => by simp at h)) HEB.out m2 m1⟩ | exact ⟨by kernel_rfl, fun q => NJ.store HOK.out HJ.out HD.out (by decide) (by decide) (by decide) (by decide) (by decide) hA ((fun k h => by simp at h)) HEB.out m2 m1⟩
  intro D xs w7 hD hJ
  obtain ⟨u, hu, eu, hc⟩ := hJ.a (hD 5 (by omega))
  rw [hD 6 (by omega)] at hc
  simp only [cond_true] at hc
  have HBu := hid (hJ.m.below (Nat.le_refl _) (fun _ _ e => e))
  have HOu := hid hc
  have HLu := hid hu
  dsimp only [List.take, dsts, fill, List.drop]
  rw [eu]
  clear hD hJ eu hc hu HOK
  have HB7 := hid (HBP.out.trans (HBu.out.mono HBP.out.size))
  have HSP7 := hid (HSP.out.keep HBu.out)
  have HTK := hid (take_leaf c v w7 (HTP.out.keep HB7.out) HF.out.1 HF.out.2.1 HF.out.2.2.1 rr HF.out.2.2.2.1 HF.out.2.2.2.2)
  have hlt := HLT.out
  have hg4 := HG4.out
  have hl4 := HL4.out
  have HNT : Hid (¬ TOwn sg km sp ∧ ¬ TOwn sg km g4) := hid (by refine ⟨?_, ?_⟩ <;> rintro (e | e) <;> omega)
  clear hlt hg4 hl4
  have s0 := cell_of HSP7.out.h 0
  rw [HWH.out] at s0
  clear HNW R5 HSP HBP
  go_wp2_with (first | (go_at_call 24; refine HTK.out.mono ?_; rintro e w8 ⟨rfl, hT8, hM8⟩; go_loud (have hsp8 := HSP7.out.mod' hM8 HNT.out.1 HNT.out.2; have hs0 := cell_of (blk_alloc (o' := (.cells #[.int .i64 j, .int .u32 (pj.gen + 1)] 30 (0, 0))) hsp8.h) 0; rw [HWH.out] at hs0; have hb8 : Below w8.heap.size w8 (w8.alloc (.cells #[.int .i64 j, .int .u32 (pj.gen + 1)] 30 (0, 0))) := (Below.refl _ _).alloc (Nat.le_refl _) _; have hM9 := ((Mod.ofBelow (S := TOwn sg km) HB7.out).trans hM8 (fun _ _ h => h)); have hM9 := hM9.trans (mod_below hb8) (fun _ _ h => h); have HFX := hid (HFK.out _ _ _ _ (hT8.keep hb8) (rooms_mod HRM.out hM9 H0.out) (hsp8.keep hb8) HNT.out); have HM9 := hid hM9; clear hT8 hM8 hsp8 hb8 hM9 s0)) | (go_at_call 40; refine HFX.out.mono ?_; rintro e w10 ⟨rfl, hT10, hM10⟩; have HE := hid (And.intro hT10 hM10); clear hT10 hM10))
  refine bodyPost_ret (v := .tuple #[.slice none 0 0, .int .i64 0]) ?hr ?hd ?post
  case hr => kernel_rfl
  case hd => kernel_rfl
  case post => exact ⟨rfl, HE.out.1, HM9.out.trans HE.out.2 (fun _ _ h => h)⟩
end Go.Proofs.YtnngicopphiaaaaGreatDoor.T
