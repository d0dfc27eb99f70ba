/- Part 18 of 26. -/
import Derived.Test.YtgdmfledhhoedaaGreatDoorC02
import Derived.Test.YtgdmfledhhoedaaGreatDoorC17
import Derived.Test.YtgdmfledhhoedaaGreatDoorC14
namespace Go.Proofs.YtgdmfledhhoedaaGreatDoor.T
set_option maxRecDepth 8000
open Go.ChangeShapes Go.WideShapes Go.ChangeAt Go.RowKit Go.Burg
open Go.Burg.Lk
theorem Rel.z1i {w : World} {l : List (Cel Nd)} {P : List (Cel PNd)} (h : Rel w l P) : z1i l = z1i P := by
 have key : ∀ (l : List (Cel Nd)) (P : List (Cel PNd)), l.length = P.length -> (∀ (i : Nat) (c : Cel Nd), l[i]? = some c -> ∃ p : Cel PNd, P[i]? = some p /\ p.is = c.is /\ p.gen = c.gen) -> (l.filter Cel.room).length = (P.filter Cel.room).length := by
  intro l
  induction l with
  | nil => intro P hl _; cases P with
   | nil => rfl
   | cons p P => simp at hl
  | cons c l ih =>
   intro P hl hp
   cases P with
   | nil => simp at hl
   | cons p P =>
    obtain ⟨p', e, h1, h2⟩ := hp 0 c rfl
    simp at e
    subst e
    have hr : c.room = p.room := by unfold Cel.room; rw [h1, h2]
    have := ih P (by simpa using hl) (fun i c' hc' => hp (i + 1) c' (by simpa using hc'))
    cases hb : p.room <;> simp [hr, hb, this]
 exact key l P h.len (fun i c hc => by obtain ⟨p, h1, h2, h3, _⟩ := h.at_ i c hc; exact ⟨p, h1, h2, h3⟩)
variable {c v : ByteArray} {pj : Cel PNd} {gen slot tk : Int} {l : List (Cel Nd)} {P P2 : List (Cel PNd)} {L L2 : List (RefK × Wd)} {i ir j kb km sb sg t : Nat} {q qr : PNd}
set_option maxRecDepth 20000 in
set_option maxHeartbeats 8000000 in
theorem Put_fork3 {s : SpotP} {r : Int × Int} (w : World) (h : TreeAt w t sb sg kb km l L tk) (hR : Rel w l P) (hr : RoomsAt w) (hc : z2k c) (hv : v.size <= 32) (hq : z0k P slot gen i q) (hp : q.planted = true) (hs : SeekW P c (slot, gen) 0 [] s) (hw : s.what = 3)
 (h2 : 2 <= s.way.length) (hrl : s.way[s.way.length - 1]? = some r) (hqr : z0k P r.1 r.2 ir qr) (hF : z2q P (j : Int)) (hj : P[j]? = some pj) (hjr : pj.room = true) (hrm : 2 <= z1i P) (h0 : ¬ TOwn sg km 0) (rr : RefK) (hr1 : rr.1.1 = j) (hr2 : rr.1.2 = pj.gen + 1)
 (hfk : ∀ W b g wc, z1c W t sb sg kb km (P.set j ⟨true, ⟨.leaf c v, false, false⟩, pj.gen + 1⟩) (K.addL L rr).2 tk -> RoomsAt W -> SpotAt W b g wc s -> ¬ TOwn sg km b /\ ¬ TOwn sg km g -> Calls Tryz.prog 35 #[.pointer (some ⟨t, 0, none⟩), .pointer (some ⟨b, 0, none⟩), .string c, .agg #[.int .i64 j, .int .u32 (pj.gen + 1)]] W fun e w' => e = .returned (.tuple #[]) /\ z1c w' t sb sg kb km P2 L2 tk /\ Mod (TOwn sg km) W w') :
 Calls Tryz.prog 8 #[.pointer (some ⟨t, 0, none⟩), .agg #[.int .i64 slot, .int .u32 gen], .string c, .string v] w fun e w' => e = .returned (.tuple #[.slice none 0 0, .int .i64 0]) /\ z1c w' t sb sg kb km P2 L2 tk /\ Mod (TOwn sg km) w w' := by
 have hB0 : Below w.heap.size w (w.alloc (.cells #[.int .i64 slot, .int .u32 gen] 36 (0, 0))) := (Below.refl _ _).alloc (Nat.le_refl _) _
 have HPL := hid (Plan_put3 (w.alloc (.cells #[.int .i64 slot, .int .u32 gen] 36 (0, 0))) (h.keep hB0) (hR.keep hB0) (hr.keep hB0) hc hq hp hs hw 2 [] 2 (fun w1 b g wc hb1 hsa hwc => (split_at hsa h2 hwc).mono (fun e w' h => ⟨none, 0, h.1, World.ownsRow_nil _ _ _ _, h.2⟩)))
 have HQR := hid hqr
 have HFK := hid hfk
 have H0 := hid h0
 have HF := hid (And.intro hF (And.intro hj (And.intro hjr (And.intro hr1 hr2))))
 clear hqr hfk h0 hF hj hjr hr1 hr2 hB0
 have b0 := z0a w (.cells #[.int .i64 slot, .int .u32 gen] 36 (0, 0))
 have hB : Below w.heap.size w (w.alloc (.cells #[.int .i64 slot, .int .u32 gen] 36 (0, 0))) := (Below.refl _ _).alloc (Nat.le_refl _) _
 have dv : decide ((v.size : Int) > 32) = false := by simp; omega
 have HWM : Hid (s.way.length <= 100) := hid (by have h1 := SeekW.way_le hs; have h2 := hc.size; simp only [List.length_nil] at h1; omega)
 have HSKA := hid (fun w1 (hb : Below w.heap.size w w1) => Seek_at w1 (h.keep hb) (hR.keep hb) (hr.keep hb) hc hq hp hs)
 have hrml : z1i l = z1i P := hR.z1i
 have HLT := hid (And.intro (lt_of_block h.ht) (And.intro h.hs.blt (And.intro h.hs.glt h.hk.lt)))
 have HT := hid h
 have HR := hid hR
 have HRM := hid hr
 have HWH := hid hw
 have HS := hid hs
 have HRL := hid hrl
 have HTP : Hid (z1c w t sb sg kb km P L tk) := hid ⟨l, h, hR⟩
 have d6 : decide (((z1i l : Nat) : Int) < 2) = false := by rw [hrml]; simp; omega
 clear hrml hR hr hc hq hp hs hw hrl h
 go_enter Tryz.func8, Tryz.ntmps8
 go_wp2_with ((go_at_call 28; refine HPL.out.mono ?_; rintro e w2 ⟨g, wc, da, dc, rfl, how, hod, hb2⟩; unfold z2h; go_loud (have h0 := (hb2.block _ (lt_of_block b0)).trans b0; have hc2 := z0a w2 (.cells #[(.slice (some ⟨g, (s.way.length - 2) * 2, none⟩) 2 (wc - (s.way.length - 2))), .slice da 0 dc, .int .i64 2] 90 (0, 0)); have hbc : Below w2.heap.size w2 (w2.alloc (.cells #[(.slice (some ⟨g, (s.way.length - 2) * 2, none⟩) 2 (wc - (s.way.length - 2))), .slice da 0 dc, .int .i64 2] 90 (0, 0))) := (Below.refl _ _).alloc (Nat.le_refl _) _; have hbw2 := hB.trans (hb2.mono hB.size); have HB2 := hid (hbw2.trans (hbc.mono hbw2.size)); have HC2 := hid hc2; have H02 := hid ((hbc.block _ (lt_of_block h0)).trans h0); have HV0 := hid (show w.heap.size <= w2.heap.size from hbw2.size); clear h0 hc2 hbc hbw2 how hod hb2)))
 generalize hWA : w2.alloc (.cells #[(.slice (some ⟨g, (s.way.length - 2) * 2, none⟩) 2 (wc - (s.way.length - 2))), .slice da 0 dc, .int .i64 2] 90 (0, 0)) = WA at *
 generalize w2.heap.size = vb at *
 have HTA := hid (HT.out.keep HB2.out)
 clear hWA
 refine z0h 10 (fun w1 => Below (WA).heap.size (WA) w1) (by kernel_rfl) (by kernel_rfl) (by kernel_rfl) ⟨rfl, rfl, rfl, Nat.le_refl _, fun _ _ => rfl⟩ ?_
 dsimp only [List.take]
 iterate 10
  refine Seq.cons (a' := ?_) ?_ ?_ ?_
  rotate_left
  ·intro w1 hw1
   have t0 := cell_of (HTA.out.keep hw1).ht 0; have c2 := cell_of (z0b HC2.out hw1 (lt_of_block HC2.out)) 2
   go_wp2_with (go_at_call 29; refine (S.left_any _ (HTA.out.keep hw1).hs).mono ?_; rintro e w' ⟨rfl, hb⟩)
   refine ⟨?_, by first | assumption | (simpa using z0c hw1 hb hw1.size)⟩
   exact rfl
  ·kernel_rfl
 refine SeqI.nil ?_
 intro _ w1 _ hw1
 dsimp only [List.drop]
 have hbw := HB2.out.trans (hw1.mono HB2.out.size)
 have h02 := z0b H02.out hw1 (lt_of_block H02.out)
 have a0 := cell_of h02 0
 have a1 := cell_of h02 1
 have HSK := hid (HSKA.out _ hbw)
 have HBW := hid hbw
 clear hw1 h02 hbw HPL H02 HC2 HB2 HTA
 go_wp2_with (first | (go_at_call 30; refine HSK.out.mono ?_; rintro e w4 ⟨wa, wc4, rfl, how, hb4⟩; rw [HWH.out]; go_loud (obtain ⟨g4, rfl, lg, _⟩ := O.z0x (z2f how (Nat.zero_le _)) (SeekW.z1j HS.out); have hg4 := (show _ <= g4 from (O.z1w how rfl).1); have hsp4 := z0a w4 (.cells #[.int .i64 3, .slice (some ⟨g4, 0, none⟩) s.way.length wc4, .int .i64 s.at_, .int .i64 s.depth] 107 (0, 0)); have hbs : Below w4.heap.size w4 (w4.alloc (.cells #[.int .i64 3, .slice (some ⟨g4, 0, none⟩) s.way.length wc4, .int .i64 s.at_, .int .i64 s.depth] 107 (0, 0))) := (Below.refl _ _).alloc (Nat.le_refl _) _; have hSA : SpotAt (w4.alloc (.cells #[.int .i64 3, .slice (some ⟨g4, 0, none⟩) s.way.length wc4, .int .i64 s.at_, .int .i64 s.depth] 107 (0, 0))) w4.heap.size g4 wc4 s := ⟨(by rw [HWH.out]; exact hsp4), z2f (O.z0g how (O.z0m (S := fun _ => False) hbs) (fun _ _ h => h)) (Nat.zero_le _), SeekW.z1j HS.out, HWM.out⟩; have HUP := hid (up_at (k := 0) hSA (SeekW.z1j HS.out) (by simpa using HRL.out)); have hb14 := hb4.trans (hbs.mono hb4.size); have HB4 := hid (HBW.out.trans (hb14.mono HBW.out.size)); have HSA := hid hSA; have HG4 := hid (show w.heap.size <= g4 by have := HBW.out.size; omega); have HL4 := hid (show w.heap.size <= w4.heap.size by have := HBW.out.size; have := hb4.size; omega); clear how hb4 lg hg4 hsp4 hbs hSA hb14)) | (go_at_call 31; refine HUP.out.mono ?_; rintro e w5 ⟨rfl, hb5⟩; go_loud (have hr5 := z0a w5 (.cells #[.int .i64 r.1, .int .u32 r.2] 36 (0, 0)); have hbr : Below w5.heap.size w5 (w5.alloc (.cells #[.int .i64 r.1, .int .u32 r.2] 36 (0, 0))) := (Below.refl _ _).alloc (Nat.le_refl _) _; have hb45 := hb5.trans (hbr.mono hb5.size); have HSP := hid (HSA.out.keep hb45); have R5 := hid hr5; have HBP := hid (HB4.out.trans (hb45.mono HB4.out.size)); have HL5 := hid (show w.heap.size <= w5.heap.size by have := HB4.out.size; have := hb5.size; omega); clear hr5 hbr hb45 hb5)))
 clear HUP HB4 HSA HSK HBW a0 a1
 generalize hWX : w5.alloc (.cells #[.int .i64 r.1, .int .u32 r.2] 36 (0, 0)) = W at *
 generalize w4.heap.size = sp at *
 generalize w5.heap.size = rb at *
 clear hWX
 obtain ⟨⟨xis, ⟨kn, cd, vl, xp, ⟨ya, yn, yc⟩, ⟨za, zn, zc⟩, xpl, xdi⟩, xgn⟩, hLx, _, _, _⟩ := HR.out.live HQR.out
 have HNW := hid (fun w1 (hb : Below W.heap.size W w1) => node_at r.1 r.2 w1 (HT.out.keep (HBP.out.trans (hb.mono HBP.out.size))) hLx)
 clear hLx
 have HOK := hid (NJOk.calm (W0 := W) (T := 102) (z := #[.int .i64 0, .string ⟨#[]⟩, .string ⟨#[]⟩, .string ⟨#[]⟩, .slice none 0 0, .slice none 0 0]) (o := #[.int .i64 kn, .string cd, .string vl, .string xp, .slice ya yn yc, .slice za zn zc]) (dl := fun _ => []))
 refine z0r 7 [5] (fun xs => [.pointer (some ⟨t, 0, none⟩), .pointer (some ⟨t, 0, none⟩), .pointer (some ⟨t, 0, none⟩), .agg #[.int .i64 r.1, .int .u32 r.2], .agg #[.int .i64 kn, .string cd, .string vl, .string xp, .slice ya yn yc, .slice za zn zc], xs 5, undef]) (NJ (fun _ => False) (fun _ => True) (fun _ => True) (fun _ _ _ => True) W 102 #[.int .i64 0, .string ⟨#[]⟩, .string ⟨#[]⟩, .string ⟨#[]⟩, .slice none 0 0, .slice none 0 0] (fun _ => #[.int .i64 kn, .string cd, .string vl, .string xp, .slice ya yn yc, .slice za zn zc]) [] [] 99 5 6 [] [] (fun _ => []) (fun _ => undef) (fun _ _ => undef)) (NJ.start trivial) (fun xs ys h => by simp [h]) ?_ ?_
 ·dsimp only [List.take, z1a, OpT, z1n]
  (repeat' refine And.intro ?_ ?_) <;> first | refine .inl ⟨rfl, ?_⟩ | refine .inr ⟨rfl, ?_⟩
  iterate 5
   ·intro D xs w1 hDk hwt hJ
    have hr := ((hJ.m.below (Nat.le_refl _) (fun _ _ e => e)).block _ (lt_of_block R5.out)).trans R5.out; have n0 := cell_of hr 0; have n1 := cell_of hr 1; clear hr; have HND := hid (HNW.out w1 (hJ.m.below (Nat.le_refl _) (fun _ _ e => e)))
    have HJ := hid hJ
    have HD := hid hDk
    clear hDk hwt hJ
    go_wp2_with (go_at_call 32; refine HND.out.mono ?_; rintro e w2 ⟨rfl, hb2⟩)
    refine ⟨by kernel_rfl, ?_⟩
    intros
    exact NJ.calm HOK.out HJ.out HD.out (by first | exact Below.refl _ _ | assumption)
  ·intro D xs w1 hDk hwt hJ
   have HJ := hid hJ
   have HD := hid hDk
   clear hDk hwt hJ
   go_wp2_with fail
   first | exact ⟨_, by kernel_rfl, fun u hu => by obtain rfl := hu rfl; exact NJ.alloc HOK.out HJ.out HD.out⟩ | exact ⟨_, by kernel_rfl, NJ.alloc HOK.out HJ.out HD.out⟩
  ·intro D xs w1 hDk hwt hJ
   have hA := hwt 5 (eM (by kernel_rfl))
   obtain ⟨b0, hb0, eb0, hc0⟩ := hJ.a hA
   rw [eb0]
   have HEB := hid eb0
   clear eb0
   rw [show D 6 = false from hDk] at hc0
   simp only [cond_false] at hc0
   have q0 := cell_of hc0 0
   have q1 := cell_of hc0 1
   have q2 := cell_of hc0 2
   have q3 := cell_of hc0 3
   have q4 := cell_of hc0 4
   have q5 := cell_of hc0 5
   have qf := z0e hc0
   have HC := hid hc0
   clear hc0
   have HJ := hid hJ
   have HD := hid hDk
   clear hDk hwt hJ
   go_wp2_with fail
   obtain ⟨m1, m2⟩ := (set6_mod _ _ _ _ _ _ HC.out)
   refine ⟨by kernel_rfl, ?_⟩; intros; exact NJ.store HOK.out HJ.out HD.out hA (fun k h => by simp at h) HEB.out m2 m1
 intro D xs w7 hD hJ
 obtain ⟨u, hu, eu, hc⟩ := hJ.a (hD 5 (by omega))
 rw [hD 6 (by omega)] at hc
 simp only [cond_true] at hc
 have HBu := hid (hJ.m.below (Nat.le_refl _) (fun _ _ e => e))
 have HOu := hid hc
 have HLu := hid hu
 dsimp only [List.take, z1n, List.drop]
 rw [eu]
 clear hD hJ eu hc hu HOK
 have HB7 := hid (HBP.out.trans (HBu.out.mono HBP.out.size))
 have HSP7 := hid (HSP.out.keep HBu.out)
 have HTK := hid (take_leaf c v w7 (HTP.out.keep HB7.out) HF.out.1 HF.out.2.1 HF.out.2.2.1 rr HF.out.2.2.2.1 HF.out.2.2.2.2)
 have hlt := HLT.out
 have hg4 := HG4.out
 have hl4 := HL4.out
 have HNT : Hid (¬ TOwn sg km sp /\ ¬ TOwn sg km g4) := hid (by refine ⟨?_, ?_⟩ <;> rintro (e | e) <;> omega)
 clear hlt hg4 hl4
 have s0 := cell_of HSP7.out.h 0
 rw [HWH.out] at s0
 clear HNW R5 HSP HBP
 go_wp2_with (first | (go_at_call 34; refine HTK.out.mono ?_; rintro e w8 ⟨rfl, hT8, hM8⟩; go_loud (have hsp8 := HSP7.out.mod' hM8 HNT.out.1 HNT.out.2; have hs0 := cell_of (z0d (o' := (.cells #[.int .i64 j, .int .u32 (pj.gen + 1)] 36 (0, 0))) hsp8.h) 0; rw [HWH.out] at hs0; have hb8 : Below w8.heap.size w8 (w8.alloc (.cells #[.int .i64 j, .int .u32 (pj.gen + 1)] 36 (0, 0))) := (Below.refl _ _).alloc (Nat.le_refl _) _; have hM9 := ((Mod.z0n (S := TOwn sg km) HB7.out).trans hM8 (fun _ _ h => h)); have hM9 := hM9.trans (z1b hb8) (fun _ _ h => h); have HFX := hid (HFK.out _ _ _ _ (hT8.keep hb8) (z1s HRM.out hM9 H0.out) (hsp8.keep hb8) HNT.out); have HM9 := hid hM9; clear hT8 hM8 hsp8 hb8 hM9 s0)) | (go_at_call 35; refine HFX.out.mono ?_; rintro e w10 ⟨rfl, hT10, hM10⟩; have HE := hid (And.intro hT10 hM10); clear hT10 hM10))
 refine bodyPost_ret (v := .tuple #[.slice none 0 0, .int .i64 0]) ?hr ?hd ?post
 case hr => kernel_rfl
 case hd => kernel_rfl
 case post => exact ⟨rfl, HE.out.1, HM9.out.trans HE.out.2 (fun _ _ h => h)⟩
set_option maxRecDepth 20000 in
set_option maxHeartbeats 8000000 in
theorem Put_fork4 {s : SpotP} {r : Int × Int} (w : World) (h : TreeAt w t sb sg kb km l L tk) (hR : Rel w l P) (hr : RoomsAt w) (hc : z2k c) (hv : v.size <= 32) (hq : z0k P slot gen i q) (hp : q.planted = true) (hs : SeekW P c (slot, gen) 0 [] s) (hw : s.what = 4)
 (h2 : 2 <= s.way.length) (hrl : s.way[s.way.length - 1]? = some r) (hqr : z0k P r.1 r.2 ir qr) (hF : z2q P (j : Int)) (hj : P[j]? = some pj) (hjr : pj.room = true) (hrm : 2 <= z1i P) (h0 : ¬ TOwn sg km 0) (rr : RefK) (hr1 : rr.1.1 = j) (hr2 : rr.1.2 = pj.gen + 1)
 (hfk : ∀ W b g wc, z1c W t sb sg kb km (P.set j ⟨true, ⟨.leaf c v, false, false⟩, pj.gen + 1⟩) (K.addL L rr).2 tk -> RoomsAt W -> SpotAt W b g wc s -> ¬ TOwn sg km b /\ ¬ TOwn sg km g -> Calls Tryz.prog 35 #[.pointer (some ⟨t, 0, none⟩), .pointer (some ⟨b, 0, none⟩), .string c, .agg #[.int .i64 j, .int .u32 (pj.gen + 1)]] W fun e w' => e = .returned (.tuple #[]) /\ z1c w' t sb sg kb km P2 L2 tk /\ Mod (TOwn sg km) W w') :
 Calls Tryz.prog 8 #[.pointer (some ⟨t, 0, none⟩), .agg #[.int .i64 slot, .int .u32 gen], .string c, .string v] w fun e w' => e = .returned (.tuple #[.slice none 0 0, .int .i64 0]) /\ z1c w' t sb sg kb km P2 L2 tk /\ Mod (TOwn sg km) w w' := by
 have hB0 : Below w.heap.size w (w.alloc (.cells #[.int .i64 slot, .int .u32 gen] 36 (0, 0))) := (Below.refl _ _).alloc (Nat.le_refl _) _
 have HPL := hid (Plan_put4 (w.alloc (.cells #[.int .i64 slot, .int .u32 gen] 36 (0, 0))) (h.keep hB0) (hR.keep hB0) (hr.keep hB0) hc hq hp hs hw 2 [] 2 (fun w1 b g wc hb1 hsa hwc => (split_at hsa h2 hwc).mono (fun e w' h => ⟨none, 0, h.1, World.ownsRow_nil _ _ _ _, h.2⟩)))
 have HQR := hid hqr
 have HFK := hid hfk
 have H0 := hid h0
 have HF := hid (And.intro hF (And.intro hj (And.intro hjr (And.intro hr1 hr2))))
 clear hqr hfk h0 hF hj hjr hr1 hr2 hB0
 have b0 := z0a w (.cells #[.int .i64 slot, .int .u32 gen] 36 (0, 0))
 have hB : Below w.heap.size w (w.alloc (.cells #[.int .i64 slot, .int .u32 gen] 36 (0, 0))) := (Below.refl _ _).alloc (Nat.le_refl _) _
 have dv : decide ((v.size : Int) > 32) = false := by simp; omega
 have HWM : Hid (s.way.length <= 100) := hid (by have h1 := SeekW.way_le hs; have h2 := hc.size; simp only [List.length_nil] at h1; omega)
 have HSKA := hid (fun w1 (hb : Below w.heap.size w w1) => Seek_at w1 (h.keep hb) (hR.keep hb) (hr.keep hb) hc hq hp hs)
 have hrml : z1i l = z1i P := hR.z1i
 have HLT := hid (And.intro (lt_of_block h.ht) (And.intro h.hs.blt (And.intro h.hs.glt h.hk.lt)))
 have HT := hid h
 have HR := hid hR
 have HRM := hid hr
 have HWH := hid hw
 have HS := hid hs
 have HRL := hid hrl
 have HTP : Hid (z1c w t sb sg kb km P L tk) := hid ⟨l, h, hR⟩
 have d6 : decide (((z1i l : Nat) : Int) < 2) = false := by rw [hrml]; simp; omega
 clear hrml hR hr hc hq hp hs hw hrl h
 go_enter Tryz.func8, Tryz.ntmps8
 go_wp2_with ((go_at_call 28; refine HPL.out.mono ?_; rintro e w2 ⟨g, wc, da, dc, rfl, how, hod, hb2⟩; unfold z2h; go_loud (have h0 := (hb2.block _ (lt_of_block b0)).trans b0; have hc2 := z0a w2 (.cells #[(.slice (some ⟨g, (s.way.length - 2) * 2, none⟩) 2 (wc - (s.way.length - 2))), .slice da 0 dc, .int .i64 2] 90 (0, 0)); have hbc : Below w2.heap.size w2 (w2.alloc (.cells #[(.slice (some ⟨g, (s.way.length - 2) * 2, none⟩) 2 (wc - (s.way.length - 2))), .slice da 0 dc, .int .i64 2] 90 (0, 0))) := (Below.refl _ _).alloc (Nat.le_refl _) _; have hbw2 := hB.trans (hb2.mono hB.size); have HB2 := hid (hbw2.trans (hbc.mono hbw2.size)); have HC2 := hid hc2; have H02 := hid ((hbc.block _ (lt_of_block h0)).trans h0); have HV0 := hid (show w.heap.size <= w2.heap.size from hbw2.size); clear h0 hc2 hbc hbw2 how hod hb2)))
 generalize hWA : w2.alloc (.cells #[(.slice (some ⟨g, (s.way.length - 2) * 2, none⟩) 2 (wc - (s.way.length - 2))), .slice da 0 dc, .int .i64 2] 90 (0, 0)) = WA at *
 generalize w2.heap.size = vb at *
 have HTA := hid (HT.out.keep HB2.out)
 clear hWA
 refine z0h 10 (fun w1 => Below (WA).heap.size (WA) w1) (by kernel_rfl) (by kernel_rfl) (by kernel_rfl) ⟨rfl, rfl, rfl, Nat.le_refl _, fun _ _ => rfl⟩ ?_
 dsimp only [List.take]
 iterate 10
  refine Seq.cons (a' := ?_) ?_ ?_ ?_
  rotate_left
  ·intro w1 hw1
   have t0 := cell_of (HTA.out.keep hw1).ht 0; have c2 := cell_of (z0b HC2.out hw1 (lt_of_block HC2.out)) 2
   go_wp2_with (go_at_call 29; refine (S.left_any _ (HTA.out.keep hw1).hs).mono ?_; rintro e w' ⟨rfl, hb⟩)
   refine ⟨?_, by first | assumption | (simpa using z0c hw1 hb hw1.size)⟩
   exact rfl
  ·kernel_rfl
 refine SeqI.nil ?_
 intro _ w1 _ hw1
 dsimp only [List.drop]
 have hbw := HB2.out.trans (hw1.mono HB2.out.size)
 have h02 := z0b H02.out hw1 (lt_of_block H02.out)
 have a0 := cell_of h02 0
 have a1 := cell_of h02 1
 have HSK := hid (HSKA.out _ hbw)
 have HBW := hid hbw
 clear hw1 h02 hbw HPL H02 HC2 HB2 HTA
 go_wp2_with (first | (go_at_call 30; refine HSK.out.mono ?_; rintro e w4 ⟨wa, wc4, rfl, how, hb4⟩; rw [HWH.out]; go_loud (obtain ⟨g4, rfl, lg, _⟩ := O.z0x (z2f how (Nat.zero_le _)) (SeekW.z1j HS.out); have hg4 := (show _ <= g4 from (O.z1w how rfl).1); have hsp4 := z0a w4 (.cells #[.int .i64 4, .slice (some ⟨g4, 0, none⟩) s.way.length wc4, .int .i64 s.at_, .int .i64 s.depth] 107 (0, 0)); have hbs : Below w4.heap.size w4 (w4.alloc (.cells #[.int .i64 4, .slice (some ⟨g4, 0, none⟩) s.way.length wc4, .int .i64 s.at_, .int .i64 s.depth] 107 (0, 0))) := (Below.refl _ _).alloc (Nat.le_refl _) _; have hSA : SpotAt (w4.alloc (.cells #[.int .i64 4, .slice (some ⟨g4, 0, none⟩) s.way.length wc4, .int .i64 s.at_, .int .i64 s.depth] 107 (0, 0))) w4.heap.size g4 wc4 s := ⟨(by rw [HWH.out]; exact hsp4), z2f (O.z0g how (O.z0m (S := fun _ => False) hbs) (fun _ _ h => h)) (Nat.zero_le _), SeekW.z1j HS.out, HWM.out⟩; have HUP := hid (up_at (k := 0) hSA (SeekW.z1j HS.out) (by simpa using HRL.out)); have hb14 := hb4.trans (hbs.mono hb4.size); have HB4 := hid (HBW.out.trans (hb14.mono HBW.out.size)); have HSA := hid hSA; have HG4 := hid (show w.heap.size <= g4 by have := HBW.out.size; omega); have HL4 := hid (show w.heap.size <= w4.heap.size by have := HBW.out.size; have := hb4.size; omega); clear how hb4 lg hg4 hsp4 hbs hSA hb14)) | (go_at_call 31; refine HUP.out.mono ?_; rintro e w5 ⟨rfl, hb5⟩; go_loud (have hr5 := z0a w5 (.cells #[.int .i64 r.1, .int .u32 r.2] 36 (0, 0)); have hbr : Below w5.heap.size w5 (w5.alloc (.cells #[.int .i64 r.1, .int .u32 r.2] 36 (0, 0))) := (Below.refl _ _).alloc (Nat.le_refl _) _; have hb45 := hb5.trans (hbr.mono hb5.size); have HSP := hid (HSA.out.keep hb45); have R5 := hid hr5; have HBP := hid (HB4.out.trans (hb45.mono HB4.out.size)); have HL5 := hid (show w.heap.size <= w5.heap.size by have := HB4.out.size; have := hb5.size; omega); clear hr5 hbr hb45 hb5)))
 clear HUP HB4 HSA HSK HBW a0 a1
 generalize hWX : w5.alloc (.cells #[.int .i64 r.1, .int .u32 r.2] 36 (0, 0)) = W at *
 generalize w4.heap.size = sp at *
 generalize w5.heap.size = rb at *
 clear hWX
 obtain ⟨⟨xis, ⟨kn, cd, vl, xp, ⟨ya, yn, yc⟩, ⟨za, zn, zc⟩, xpl, xdi⟩, xgn⟩, hLx, _, _, _⟩ := HR.out.live HQR.out
 have HNW := hid (fun w1 (hb : Below W.heap.size W w1) => node_at r.1 r.2 w1 (HT.out.keep (HBP.out.trans (hb.mono HBP.out.size))) hLx)
 clear hLx
 have HOK := hid (NJOk.calm (W0 := W) (T := 102) (z := #[.int .i64 0, .string ⟨#[]⟩, .string ⟨#[]⟩, .string ⟨#[]⟩, .slice none 0 0, .slice none 0 0]) (o := #[.int .i64 kn, .string cd, .string vl, .string xp, .slice ya yn yc, .slice za zn zc]) (dl := fun _ => []))
 refine z0r 7 [5] (fun xs => [.pointer (some ⟨t, 0, none⟩), .pointer (some ⟨t, 0, none⟩), .pointer (some ⟨t, 0, none⟩), .agg #[.int .i64 r.1, .int .u32 r.2], .agg #[.int .i64 kn, .string cd, .string vl, .string xp, .slice ya yn yc, .slice za zn zc], xs 5, undef]) (NJ (fun _ => False) (fun _ => True) (fun _ => True) (fun _ _ _ => True) W 102 #[.int .i64 0, .string ⟨#[]⟩, .string ⟨#[]⟩, .string ⟨#[]⟩, .slice none 0 0, .slice none 0 0] (fun _ => #[.int .i64 kn, .string cd, .string vl, .string xp, .slice ya yn yc, .slice za zn zc]) [] [] 99 5 6 [] [] (fun _ => []) (fun _ => undef) (fun _ _ => undef)) (NJ.start trivial) (fun xs ys h => by simp [h]) ?_ ?_
 ·dsimp only [List.take, z1a, OpT, z1n]
  (repeat' refine And.intro ?_ ?_) <;> first | refine .inl ⟨rfl, ?_⟩ | refine .inr ⟨rfl, ?_⟩
  iterate 5
   ·intro D xs w1 hDk hwt hJ
    have hr := ((hJ.m.below (Nat.le_refl _) (fun _ _ e => e)).block _ (lt_of_block R5.out)).trans R5.out; have n0 := cell_of hr 0; have n1 := cell_of hr 1; clear hr; have HND := hid (HNW.out w1 (hJ.m.below (Nat.le_refl _) (fun _ _ e => e)))
    have HJ := hid hJ
    have HD := hid hDk
    clear hDk hwt hJ
    go_wp2_with (go_at_call 32; refine HND.out.mono ?_; rintro e w2 ⟨rfl, hb2⟩)
    refine ⟨by kernel_rfl, ?_⟩
    intros
    exact NJ.calm HOK.out HJ.out HD.out (by first | exact Below.refl _ _ | assumption)
  ·intro D xs w1 hDk hwt hJ
   have HJ := hid hJ
   have HD := hid hDk
   clear hDk hwt hJ
   go_wp2_with fail
   first | exact ⟨_, by kernel_rfl, fun u hu => by obtain rfl := hu rfl; exact NJ.alloc HOK.out HJ.out HD.out⟩ | exact ⟨_, by kernel_rfl, NJ.alloc HOK.out HJ.out HD.out⟩
  ·intro D xs w1 hDk hwt hJ
   have hA := hwt 5 (eM (by kernel_rfl))
   obtain ⟨b0, hb0, eb0, hc0⟩ := hJ.a hA
   rw [eb0]
   have HEB := hid eb0
   clear eb0
   rw [show D 6 = false from hDk] at hc0
   simp only [cond_false] at hc0
   have q0 := cell_of hc0 0
   have q1 := cell_of hc0 1
   have q2 := cell_of hc0 2
   have q3 := cell_of hc0 3
   have q4 := cell_of hc0 4
   have q5 := cell_of hc0 5
   have qf := z0e hc0
   have HC := hid hc0
   clear hc0
   have HJ := hid hJ
   have HD := hid hDk
   clear hDk hwt hJ
   go_wp2_with fail
   obtain ⟨m1, m2⟩ := (set6_mod _ _ _ _ _ _ HC.out)
   refine ⟨by kernel_rfl, ?_⟩; intros; exact NJ.store HOK.out HJ.out HD.out hA (fun k h => by simp at h) HEB.out m2 m1
 intro D xs w7 hD hJ
 obtain ⟨u, hu, eu, hc⟩ := hJ.a (hD 5 (by omega))
 rw [hD 6 (by omega)] at hc
 simp only [cond_true] at hc
 have HBu := hid (hJ.m.below (Nat.le_refl _) (fun _ _ e => e))
 have HOu := hid hc
 have HLu := hid hu
 dsimp only [List.take, z1n, List.drop]
 rw [eu]
 clear hD hJ eu hc hu HOK
 have HB7 := hid (HBP.out.trans (HBu.out.mono HBP.out.size))
 have HSP7 := hid (HSP.out.keep HBu.out)
 have HTK := hid (take_leaf c v w7 (HTP.out.keep HB7.out) HF.out.1 HF.out.2.1 HF.out.2.2.1 rr HF.out.2.2.2.1 HF.out.2.2.2.2)
 have hlt := HLT.out
 have hg4 := HG4.out
 have hl4 := HL4.out
 have HNT : Hid (¬ TOwn sg km sp /\ ¬ TOwn sg km g4) := hid (by refine ⟨?_, ?_⟩ <;> rintro (e | e) <;> omega)
 clear hlt hg4 hl4
 have s0 := cell_of HSP7.out.h 0
 rw [HWH.out] at s0
 clear HNW R5 HSP HBP
 go_wp2_with (first | (go_at_call 34; refine HTK.out.mono ?_; rintro e w8 ⟨rfl, hT8, hM8⟩; go_loud (have hsp8 := HSP7.out.mod' hM8 HNT.out.1 HNT.out.2; have hs0 := cell_of (z0d (o' := (.cells #[.int .i64 j, .int .u32 (pj.gen + 1)] 36 (0, 0))) hsp8.h) 0; rw [HWH.out] at hs0; have hb8 : Below w8.heap.size w8 (w8.alloc (.cells #[.int .i64 j, .int .u32 (pj.gen + 1)] 36 (0, 0))) := (Below.refl _ _).alloc (Nat.le_refl _) _; have hM9 := ((Mod.z0n (S := TOwn sg km) HB7.out).trans hM8 (fun _ _ h => h)); have hM9 := hM9.trans (z1b hb8) (fun _ _ h => h); have HFX := hid (HFK.out _ _ _ _ (hT8.keep hb8) (z1s HRM.out hM9 H0.out) (hsp8.keep hb8) HNT.out); have HM9 := hid hM9; clear hT8 hM8 hsp8 hb8 hM9 s0)) | (go_at_call 35; refine HFX.out.mono ?_; rintro e w10 ⟨rfl, hT10, hM10⟩; have HE := hid (And.intro hT10 hM10); clear hT10 hM10))
 refine bodyPost_ret (v := .tuple #[.slice none 0 0, .int .i64 0]) ?hr ?hd ?post
 case hr => kernel_rfl
 case hd => kernel_rfl
 case post => exact ⟨rfl, HE.out.1, HM9.out.trans HE.out.2 (fun _ _ h => h)⟩
variable {di pl : Bool}
theorem set_leaf {us ug : Int} (c v : ByteArray) (w : World) (h : z1c w t sb sg kb km P L tk) {q : PN} (hu : z0k P us ug i ⟨q, pl, di⟩) :
 Calls Tryz.prog 33 #[.pointer (some ⟨t, 0, none⟩), .agg #[.int .i64 us, .int .u32 ug], .agg #[.int .i64 1, .string c, .string v, .string ⟨#[]⟩, .slice none 0 0, .slice none 0 0]] w fun e w' => e = .returned (.tuple #[]) /\ z1c w' t sb sg kb km (P.set i ⟨true, ⟨.leaf c v, pl, di⟩, ug⟩) L tk /\ Mod (· = sg) w w' := by
 obtain ⟨l, h1, h2⟩ := h
 obtain ⟨⟨xis, x, xgn⟩, hLx, hplx, hdix, hNx⟩ := h2.live hu
 obtain rfl : xis = true := hLx.2.2.1
 obtain rfl : xgn = ug := hLx.2.2.2
 simp only at hplx hdix
 refine (pset_at us xgn 1 c v ⟨#[]⟩ none none 0 0 0 0 w h1 hLx).mono ?_
 rintro e w' ⟨e1, hT, hM⟩
 exact ⟨e1, ⟨_, hT, Rel.set (q := ⟨.leaf c v, pl, di⟩) (h2.mod hM (fun k' e => h1.noRow k' (.inl e))) true (fun _ => ⟨hplx.symm, hdix.symm, rfl, rfl, rfl, rfl, rfl, rfl⟩)⟩, hM⟩
set_option maxRecDepth 20000 in
set_option maxHeartbeats 8000000 in
theorem Put_here {cd vl : ByteArray} {s : SpotP} {r : Int × Int} (w : World) (h : TreeAt w t sb sg kb km l L tk) (hR : Rel w l P) (hr : RoomsAt w) (hc : z2k c) (hv : v.size <= 32) (hq : z0k P slot gen i q) (hp : q.planted = true) (hs : SeekW P c (slot, gen) 0 [] s) (hw : s.what = 1)
 (hrl : s.way[s.way.length - 1]? = some r) (hqr : z0k P r.1 r.2 ir ⟨.leaf cd vl, pl, di⟩) :
 Calls Tryz.prog 8 #[.pointer (some ⟨t, 0, none⟩), .agg #[.int .i64 slot, .int .u32 gen], .string c, .string v] w fun e w' => e = .returned (.tuple #[.slice none 0 0, .int .i64 0]) /\ z1c w' t sb sg kb km (P.set ir ⟨true, ⟨.leaf cd v, pl, di⟩, r.2⟩) L tk /\ Mod (· = sg) w w' := by
 have hB0 : Below w.heap.size w (w.alloc (.cells #[.int .i64 slot, .int .u32 gen] 36 (0, 0))) := (Below.refl _ _).alloc (Nat.le_refl _) _
 have HPL := hid (Plan_put1 (w.alloc (.cells #[.int .i64 slot, .int .u32 gen] 36 (0, 0))) (h.keep hB0) (hR.keep hB0) (hr.keep hB0) hc hq hp hs hw 1 [] 0 (fun w1 b g wc hb1 hsa hwc => (here_at hsa (SeekW.z1j hs) hwc).mono (fun e w' h => ⟨none, 0, h.1, World.ownsRow_nil _ _ _ _, h.2⟩)))
 have HQR := hid hqr
 clear hqr hB0
 have b0 := z0a w (.cells #[.int .i64 slot, .int .u32 gen] 36 (0, 0))
 have hB : Below w.heap.size w (w.alloc (.cells #[.int .i64 slot, .int .u32 gen] 36 (0, 0))) := (Below.refl _ _).alloc (Nat.le_refl _) _
 have dv : decide ((v.size : Int) > 32) = false := by simp; omega
 have HWM : Hid (s.way.length <= 100) := hid (by have h1 := SeekW.way_le hs; have h2 := hc.size; simp only [List.length_nil] at h1; omega)
 have HSKA := hid (fun w1 (hb : Below w.heap.size w w1) => Seek_at w1 (h.keep hb) (hR.keep hb) (hr.keep hb) hc hq hp hs)
 have hrml : z1i l = z1i P := hR.z1i
 have HLT := hid (And.intro (lt_of_block h.ht) (And.intro h.hs.blt (And.intro h.hs.glt h.hk.lt)))
 have HT := hid h
 have HR := hid hR
 have HRM := hid hr
 have HWH := hid hw
 have HS := hid hs
 have HRL := hid hrl
 have HTP : Hid (z1c w t sb sg kb km P L tk) := hid ⟨l, h, hR⟩
 have d6 : decide (((z1i l : Nat) : Int) < 0) = false := by rw [hrml]; first | (simp; done) | (simp; omega)
 clear hrml hR hr hc hq hp hs hw hrl h
 go_enter Tryz.func8, Tryz.ntmps8
 go_wp2_with ((go_at_call 28; refine HPL.out.mono ?_; rintro e w2 ⟨g, wc, da, dc, rfl, how, hod, hb2⟩; unfold z2h; go_loud (have h0 := (hb2.block _ (lt_of_block b0)).trans b0; have hc2 := z0a w2 (.cells #[(.slice (some ⟨g, (s.way.length - 1) * 2, none⟩) 1 (wc - (s.way.length - 1))), .slice da 0 dc, .int .i64 0] 90 (0, 0)); have hbc : Below w2.heap.size w2 (w2.alloc (.cells #[(.slice (some ⟨g, (s.way.length - 1) * 2, none⟩) 1 (wc - (s.way.length - 1))), .slice da 0 dc, .int .i64 0] 90 (0, 0))) := (Below.refl _ _).alloc (Nat.le_refl _) _; have hbw2 := hB.trans (hb2.mono hB.size); have HB2 := hid (hbw2.trans (hbc.mono hbw2.size)); have HC2 := hid hc2; have H02 := hid ((hbc.block _ (lt_of_block h0)).trans h0); have HV0 := hid (show w.heap.size <= w2.heap.size from hbw2.size); clear h0 hc2 hbc hbw2 how hod hb2)))
 generalize hWA : w2.alloc (.cells #[(.slice (some ⟨g, (s.way.length - 1) * 2, none⟩) 1 (wc - (s.way.length - 1))), .slice da 0 dc, .int .i64 0] 90 (0, 0)) = WA at *
 generalize w2.heap.size = vb at *
 have HTA := hid (HT.out.keep HB2.out)
 clear hWA
 refine z0h 10 (fun w1 => Below (WA).heap.size (WA) w1) (by kernel_rfl) (by kernel_rfl) (by kernel_rfl) ⟨rfl, rfl, rfl, Nat.le_refl _, fun _ _ => rfl⟩ ?_
 dsimp only [List.take]
 iterate 10
  refine Seq.cons (a' := ?_) ?_ ?_ ?_
  rotate_left
  ·intro w1 hw1
   have t0 := cell_of (HTA.out.keep hw1).ht 0; have c2 := cell_of (z0b HC2.out hw1 (lt_of_block HC2.out)) 2
   go_wp2_with (go_at_call 29; refine (S.left_any _ (HTA.out.keep hw1).hs).mono ?_; rintro e w' ⟨rfl, hb⟩)
   refine ⟨?_, by first | assumption | (simpa using z0c hw1 hb hw1.size)⟩
   exact rfl
  ·kernel_rfl
 refine SeqI.nil ?_
 intro _ w1 _ hw1
 dsimp only [List.drop]
 have hbw := HB2.out.trans (hw1.mono HB2.out.size)
 have h02 := z0b H02.out hw1 (lt_of_block H02.out)
 have a0 := cell_of h02 0
 have a1 := cell_of h02 1
 have HSK := hid (HSKA.out _ hbw)
 have HBW := hid hbw
 clear hw1 h02 hbw HPL H02 HC2 HB2 HTA
 go_wp2_with (first | (go_at_call 30; refine HSK.out.mono ?_; rintro e w4 ⟨wa, wc4, rfl, how, hb4⟩; rw [HWH.out]; go_loud (obtain ⟨g4, rfl, lg, _⟩ := O.z0x (z2f how (Nat.zero_le _)) (SeekW.z1j HS.out); have hg4 := (show _ <= g4 from (O.z1w how rfl).1); have hsp4 := z0a w4 (.cells #[.int .i64 1, .slice (some ⟨g4, 0, none⟩) s.way.length wc4, .int .i64 s.at_, .int .i64 s.depth] 107 (0, 0)); have hbs : Below w4.heap.size w4 (w4.alloc (.cells #[.int .i64 1, .slice (some ⟨g4, 0, none⟩) s.way.length wc4, .int .i64 s.at_, .int .i64 s.depth] 107 (0, 0))) := (Below.refl _ _).alloc (Nat.le_refl _) _; have hSA : SpotAt (w4.alloc (.cells #[.int .i64 1, .slice (some ⟨g4, 0, none⟩) s.way.length wc4, .int .i64 s.at_, .int .i64 s.depth] 107 (0, 0))) w4.heap.size g4 wc4 s := ⟨(by rw [HWH.out]; exact hsp4), z2f (O.z0g how (O.z0m (S := fun _ => False) hbs) (fun _ _ h => h)) (Nat.zero_le _), SeekW.z1j HS.out, HWM.out⟩; have HUP := hid (up_at (k := 0) hSA (SeekW.z1j HS.out) (by simpa using HRL.out)); have hb14 := hb4.trans (hbs.mono hb4.size); have HB4 := hid (HBW.out.trans (hb14.mono HBW.out.size)); have HSA := hid hSA; have HG4 := hid (show w.heap.size <= g4 by have := HBW.out.size; omega); have HL4 := hid (show w.heap.size <= w4.heap.size by have := HBW.out.size; have := hb4.size; omega); clear how hb4 lg hg4 hsp4 hbs hSA hb14)) | (go_at_call 31; refine HUP.out.mono ?_; rintro e w5 ⟨rfl, hb5⟩; go_loud (have hr5 := z0a w5 (.cells #[.int .i64 r.1, .int .u32 r.2] 36 (0, 0)); have hbr : Below w5.heap.size w5 (w5.alloc (.cells #[.int .i64 r.1, .int .u32 r.2] 36 (0, 0))) := (Below.refl _ _).alloc (Nat.le_refl _) _; have hb45 := hb5.trans (hbr.mono hb5.size); have HSP := hid (HSA.out.keep hb45); have R5 := hid hr5; have HBP := hid (HB4.out.trans (hb45.mono HB4.out.size)); have HL5 := hid (show w.heap.size <= w5.heap.size by have := HB4.out.size; have := hb5.size; omega); clear hr5 hbr hb45 hb5)))
 clear HUP HB4 HSA HSK HBW a0 a1
 generalize hWX : w5.alloc (.cells #[.int .i64 r.1, .int .u32 r.2] 36 (0, 0)) = W at *
 generalize w4.heap.size = sp at *
 generalize w5.heap.size = rb at *
 clear hWX
 obtain ⟨l2, hTA2, _, hLx⟩ := HTP.out.leaf HQR.out
 have HNW := hid (fun w1 (hb : Below W.heap.size W w1) => node_at r.1 r.2 w1 (hTA2.keep (HBP.out.trans (hb.mono HBP.out.size))) hLx)
 clear hLx hTA2
 have HOK := hid (NJOk.calm (W0 := W) (T := 102) (z := #[.int .i64 0, .string ⟨#[]⟩, .string ⟨#[]⟩, .string ⟨#[]⟩, .slice none 0 0, .slice none 0 0]) (o := #[.int .i64 1, .string cd, .string vl, .string ⟨#[]⟩, .slice none 0 0, .slice none 0 0]) (dl := fun _ => []))
 refine z0r 7 [5] (fun xs => [.pointer (some ⟨t, 0, none⟩), .pointer (some ⟨t, 0, none⟩), .pointer (some ⟨t, 0, none⟩), .agg #[.int .i64 r.1, .int .u32 r.2], .agg #[.int .i64 1, .string cd, .string vl, .string ⟨#[]⟩, .slice none 0 0, .slice none 0 0], xs 5, undef]) (NJ (fun _ => False) (fun _ => True) (fun _ => True) (fun _ _ _ => True) W 102 #[.int .i64 0, .string ⟨#[]⟩, .string ⟨#[]⟩, .string ⟨#[]⟩, .slice none 0 0, .slice none 0 0] (fun _ => #[.int .i64 1, .string cd, .string vl, .string ⟨#[]⟩, .slice none 0 0, .slice none 0 0]) [] [] 99 5 6 [] [] (fun _ => []) (fun _ => undef) (fun _ _ => undef)) (NJ.start trivial) (fun xs ys h => by simp [h]) ?_ ?_
 ·dsimp only [List.take, z1a, OpT, z1n]
  (repeat' refine And.intro ?_ ?_) <;> first | refine .inl ⟨rfl, ?_⟩ | refine .inr ⟨rfl, ?_⟩
  iterate 5
   ·intro D xs w1 hDk hwt hJ
    have hr := ((hJ.m.below (Nat.le_refl _) (fun _ _ e => e)).block _ (lt_of_block R5.out)).trans R5.out; have n0 := cell_of hr 0; have n1 := cell_of hr 1; clear hr; have HND := hid (HNW.out w1 (hJ.m.below (Nat.le_refl _) (fun _ _ e => e)))
    have HJ := hid hJ
    have HD := hid hDk
    clear hDk hwt hJ
    go_wp2_with (go_at_call 32; refine HND.out.mono ?_; rintro e w2 ⟨rfl, hb2⟩)
    refine ⟨by kernel_rfl, ?_⟩
    intros
    exact NJ.calm HOK.out HJ.out HD.out (by first | exact Below.refl _ _ | assumption)
  ·intro D xs w1 hDk hwt hJ
   have HJ := hid hJ
   have HD := hid hDk
   clear hDk hwt hJ
   go_wp2_with fail
   first | exact ⟨_, by kernel_rfl, fun u hu => by obtain rfl := hu rfl; exact NJ.alloc HOK.out HJ.out HD.out⟩ | exact ⟨_, by kernel_rfl, NJ.alloc HOK.out HJ.out HD.out⟩
  ·intro D xs w1 hDk hwt hJ
   have hA := hwt 5 (eM (by kernel_rfl))
   obtain ⟨b0, hb0, eb0, hc0⟩ := hJ.a hA
   rw [eb0]
   have HEB := hid eb0
   clear eb0
   rw [show D 6 = false from hDk] at hc0
   simp only [cond_false] at hc0
   have q0 := cell_of hc0 0
   have q1 := cell_of hc0 1
   have q2 := cell_of hc0 2
   have q3 := cell_of hc0 3
   have q4 := cell_of hc0 4
   have q5 := cell_of hc0 5
   have qf := z0e hc0
   have HC := hid hc0
   clear hc0
   have HJ := hid hJ
   have HD := hid hDk
   clear hDk hwt hJ
   go_wp2_with fail
   obtain ⟨m1, m2⟩ := (set6_mod _ _ _ _ _ _ HC.out)
   refine ⟨by kernel_rfl, ?_⟩; intros; exact NJ.store HOK.out HJ.out HD.out hA (fun k h => by simp at h) HEB.out m2 m1
 intro D xs w7 hD hJ
 obtain ⟨u, hu, eu, hc⟩ := hJ.a (hD 5 (by omega))
 rw [hD 6 (by omega)] at hc
 simp only [cond_true] at hc
 have HBu := hid (hJ.m.below (Nat.le_refl _) (fun _ _ e => e))
 have HOu := hid hc
 have HLu := hid hu
 dsimp only [List.take, z1n, List.drop]
 rw [eu]
 clear hD hJ eu hc hu HOK
 have HB7 := hid (HBP.out.trans (HBu.out.mono HBP.out.size))
 have R7 := (HBu.out.block _ (lt_of_block R5.out)).trans R5.out
 have hsp7 := HSP.out.keep HBu.out
 have HT7 := HTP.out.keep HB7.out
 have s0 := cell_of hsp7.h 0
 rw [HWH.out] at s0
 have qf := z0e HOu.out
 have o2 := cell_of HOu.out 2
 have hM8 : Mod (· = u) w7 (w7.setCell ⟨u, 2, none⟩ (.string v)) := Mod.setCell (S := (· = u)) (p := ⟨u, 2, none⟩) (Mod.refl _ _) (.inl rfl) _
 have ho8 : (w7.setCell ⟨u, 2, none⟩ (.string v)).heap[u]? = some (.cells #[.int .i64 1, .string cd, .string v, .string ⟨#[]⟩, .slice none 0 0, .slice none 0 0] 102 (0, 0)) := z0w HOu.out rfl
 have hlt := HLT.out
 have hl5 := HL5.out
 have hlu := HLu.out
 have hbs := HBP.out.size
 have hru : ¬ rb = u := by have := lt_of_block R5.out; omega
 have R8 := hid ((hM8.block rb (lt_of_block R7) hru).trans R7)
 have HO8 := hid ho8
 have hnr : ∀ k, k = u -> NoRow w7 k := fun k e cs T fr hk => by
  subst e
  rw [HOu.out] at hk
  cases hk
  exact ⟨by decide, by decide⟩
 have HT8 := hid (HT7.mod hM8 hnr (show ¬ t = u by omega) (show ¬ sb = u by omega) (show ¬ sg = u by omega) (show ¬ kb = u by omega) (show ¬ km = u by omega))
 have HM8 : Hid (Mod (· = sg) w (w7.setCell ⟨u, 2, none⟩ (.string v))) := hid ((Mod.z0n (S := (· = sg)) HB7.out).trans hM8 (fun i hi e => by have e2 : i = u := e; omega))
 have HNS : Hid (¬ rb = sg /\ ¬ u = sg) := hid (by omega)
 clear HNW R5 HSP HBP hM8 ho8 hlt hl5 hlu hbs hru hnr R7 hsp7 HT7 HB7 HBu HOu HLu
 go_wp2_with fail
 generalize hW8 : w7.setCell ⟨u, 2, none⟩ (.string v) = w8 at *
 clear hW8 s0 qf o2
 refine z0f 6 (Turn 5 (KidJ w8 t sb sg kb km P L tk) (KidJ w8 t sb sg kb km (P.set ir ⟨true, ⟨.leaf cd v, pl, di⟩, r.2⟩) L tk)) (by kernel_rfl) (by kernel_rfl) (by kernel_rfl) (Turn.start ⟨(Mod.refl (· = sg) w8).drew, HT8.out.keep (Below.refl _ _).drew⟩) ?_
 dsimp only [List.take]
 iterate 5
  refine Seq.calm (a' := ?_) (by decide) ?_ ?_ ?_
  rotate_left
  ·intro w1 hw1
   have hM : Mod (· = sg) w8 w1 := hw1.elim KidJ.m KidJ.m
   have hr := (hM.block rb (lt_of_block R8.out) HNS.out.1).trans R8.out
   have ho := (hM.block u (lt_of_block HO8.out) HNS.out.2).trans HO8.out
   have n0 := cell_of hr 0
   have n1 := cell_of hr 1
   have o0 := cell_of ho 0
   have o1 := cell_of ho 1
   have o2 := cell_of ho 2
   have o3 := cell_of ho 3
   have o4 := cell_of ho 4
   have o5 := cell_of ho 5
   clear hM hr ho hw1
   go_wp2_with (fail)
   refine ⟨?_, id, id⟩; exact rfl
  ·kernel_rfl
 refine Seq.turn (a' := ?_) ?_ ?_ ?_
 rotate_left
 ·intro w1 hw1
  have HM := hid hw1.m
  have HTT := hid hw1.t
  clear hw1
  go_wp2_with (go_at_call 33; refine (set_leaf cd v w1 HTT.out HQR.out).mono ?_; rintro e w2 ⟨rfl, hT, hX⟩)
  refine ⟨?_, HM.out.trans hX (fun _ _ h => h), hT⟩
  exact rfl
 ·kernel_rfl
 iterate 0
  refine Seq.calm (a' := ?_) (by decide) ?_ ?_ ?_
  rotate_left
  ·intro w1 hw1
   have hM : Mod (· = sg) w8 w1 := hw1.elim KidJ.m KidJ.m
   have hr := (hM.block rb (lt_of_block R8.out) HNS.out.1).trans R8.out
   have ho := (hM.block u (lt_of_block HO8.out) HNS.out.2).trans HO8.out
   have n0 := cell_of hr 0
   have n1 := cell_of hr 1
   have o0 := cell_of ho 0
   have o1 := cell_of ho 1
   have o2 := cell_of ho 2
   have o3 := cell_of ho 3
   have o4 := cell_of ho 4
   have o5 := cell_of ho 5
   clear hM hr ho hw1
   go_wp2_with (fail)
   refine ⟨?_, id, id⟩; exact rfl
  ·kernel_rfl
 refine SeqI.nil ?_
 intro D w1 hD hI
 replace hI := hI.done (hD 5 (by omega))
 clear hD
 dsimp only [List.drop]
 have HI := hid hI
 clear hI
 go_wp2_with fail
 go_ret2
 exact ⟨rfl, HI.out.t, HM8.out.trans HI.out.m (fun _ _ h => h)⟩
end Go.Proofs.YtgdmfledhhoedaaGreatDoor.T
