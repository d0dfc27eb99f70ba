/- Part 16 of 26. -/
import Derived.Test.YtgdmfledhhoedaaGreatDoorC14
import Derived.Test.YtgdmfledhhoedaaGreatDoorC15
import Derived.Test.YtgdmfledhhoedaaGreatDoorC02
namespace Go.Proofs.YtgdmfledhhoedaaGreatDoor.T
set_option maxRecDepth 8000
open Go.ChangeShapes Go.WideShapes Go.ChangeAt Go.RowKit Go.Burg
open Go.Burg.Lk
theorem forkK_len (x y : Kd) : (z1k x y).length = 2 := by unfold z1k; split <;> rfl
theorem forkK_may (x y : Kd) (p : ByteArray) : O.MayB 2 (z1k x y).length p := by rw [forkK_len]; exact .inl (by decide)
theorem set2_mod {T : TypeId} {w : World} {c : Nat} {a b v v' : Value} (h : w.heap[c]? = some (.cells #[a, b] T (0, 0))) :
 ((w.setCell ⟨c, 0, none⟩ v).setCell ⟨c, 1, none⟩ v').heap[c]? = some (.cells #[v, v'] T (0, 0)) /\ Mod (· = c) w ((w.setCell ⟨c, 0, none⟩ v).setCell ⟨c, 1, none⟩ v') :=
 ⟨O.set2_at h, Mod.setCell (S := (· = c)) (p := ⟨c, 1, none⟩) (Mod.setCell (S := (· = c)) (p := ⟨c, 0, none⟩) (Mod.refl _ w) (.inl rfl) v) (.inl rfl) v'⟩
structure KidJ (w0 : World) (t sb sg kb km : Nat) (P : List (Cel PNd)) (L : List (RefK × Wd)) (tk : Int) (w : World) : Prop where
 m : Mod (· = sg) w0 w
 t : z1c w t sb sg kb km P L tk
theorem KidJ.keep {w0 w w' : World} {t sb sg kb km : Nat} {P : List (Cel PNd)} {L : List (RefK × Wd)} {tk : Int} (h : KidJ w0 t sb sg kb km P L tk w) (hb : Below w.heap.size w w') : KidJ w0 t sb sg kb km P L tk w' :=
 ⟨h.m.trans (z1b hb) (fun _ _ e => e), h.t.keep hb⟩
set_option maxRecDepth 20000 in
set_option maxHeartbeats 8000000 in
theorem tfork_leaf {t sb sg kb km ir iu j jj k b g wc : Nat} {P : List (Cel PNd)} {L : List (RefK × Wd)} {tk : Int} {c cd vl pt : ByteArray} {s : SpotP} {r u0 lf : Int × Int} {Lk : List Kd} {pl di plr dir : Bool} {pj : Cel PNd} {kk : Kd} {x y : UInt8} (w : World) (h : z1c w t sb sg kb km P L tk) (hr : RoomsAt w) (h0 : ¬ TOwn sg km 0)
 (hs : SpotAt w b g wc s) (hw : s.what = 4) (hnb : ¬ TOwn sg km b /\ ¬ TOwn sg km g) (hc : c.size <= 1000) (hrl : s.way[s.way.length - 1]? = some r) (h2 : 2 <= s.way.length) (hul : s.way[s.way.length - 1 - 1]? = some u0) (hqr : z0k P r.1 r.2 ir ⟨.leaf cd vl, plr, dir⟩) (hqu : z0k P u0.1 u0.2 iu ⟨.z0j k pt Lk, pl, di⟩)
 (hF : z2q P (j : Int)) (hj : P[j]? = some pj) (hjr : pj.room = true) (hju : j ≠ iu) (rr : RefK) (hr1 : rr.1.1 = j) (hr2 : rr.1.2 = pj.gen + 1) (hd : s.depth <= c.size) (hx : (byt (rst c s.depth))[s.at_]? = some x) (hy : (byt cd)[s.depth + s.at_]? = some y) (hcd : cd.size <= 1000) (hxy : x ≠ y) (hat : s.at_ <= 34)
 (hkr : (⟨y.toNat, r.1, r.2⟩ : Kd).ok) (hkl : (⟨x.toNat, lf.1, lf.2⟩ : Kd).ok) (hkj : Lk[jj]? = some kk) (hkf : z0o Lk kk.b = some kk) (hks : kk.s = r.1) (hkg : kk.g = r.2) (hkn : ∀ i k, i < jj -> Lk[i]? = some k -> ¬ (k.s = r.1 /\ k.g = r.2)) (hok : (⟨kk.b, j, pj.gen + 1⟩ : Kd).ok) :
 Calls Tryz.prog 35 #[.pointer (some ⟨t, 0, none⟩), .pointer (some ⟨b, 0, none⟩), .string c, .agg #[.int .i64 lf.1, .int .u32 lf.2]] w fun e w' => e = .returned (.tuple #[]) /\
  z1c w' t sb sg kb km ((P.set j ⟨true, ⟨.z0j 2 ((rst c s.depth).extract 0 s.at_) (z1k ⟨y.toNat, r.1, r.2⟩ ⟨x.toNat, lf.1, lf.2⟩), false, false⟩, pj.gen + 1⟩).set iu ⟨true, ⟨.z0j k pt (z1o Lk kk.b j (pj.gen + 1)), pl, di⟩, u0.2⟩) (K.addL L rr).2 tk /\ Mod (TOwn sg km) w w' := by
 have b0 := z0a w (.cells #[.int .i64 lf.1, .int .u32 lf.2] 36 (0, 0))
 have hB : Below w.heap.size w (w.alloc (.cells #[.int .i64 lf.1, .int .u32 lf.2] 36 (0, 0))) := (Below.refl _ _).alloc (Nat.le_refl _) _
 have HUP := hid (up_at (k := 0) (hs.keep hB) (by omega) (by simpa using hrl))
 have HH := hid h
 obtain ⟨l, hTA, hRE, hLx⟩ := h.leaf hqr
 have HTA := hid hTA
 have HRE := hid hRE
 have HRM := hid hr
 have HSP := hid (hs.keep hB)
 have HLT := hid h.lt
 have hbg : b < w.heap.size /\ g < w.heap.size := ⟨lt_of_block hs.h, hs.glt⟩
 have HBG := hid hbg
 have HUL := hid hul
 have HX := hid hx
 have HY := hid hy
 have HWH := hid hw
 clear h hr hs hbg hul hrl hx hy hw hTA hRE
 go_enter Tryz.func35, Tryz.ntmps35
 go_wp2_with (go_at_call 31; refine HUP.out.mono ?_; rintro e w1 ⟨rfl, hb1⟩; go_loud (have r1 := z0a w1 (.cells #[.int .i64 r.1, .int .u32 r.2] 36 (0, 0)); have hbr : Below w1.heap.size w1 (w1.alloc (.cells #[.int .i64 r.1, .int .u32 r.2] 36 (0, 0))) := (Below.refl _ _).alloc (Nat.le_refl _) _; have hb := hb1.trans (hbr.mono hb1.size); have HS1 := hid (HSP.out.keep hb); have HB1 := hid (hB.trans (hb.mono hB.size)); have R1 := hid r1; have hlb1 : w.heap.size <= w1.heap.size := (by have := hb1.size; simp at this; omega); have B1 := hid ((hb.block _ (lt_of_block b0)).trans b0); clear hb1 r1 hbr hb))
 generalize hWX : w1.alloc (.cells #[.int .i64 r.1, .int .u32 r.2] 36 (0, 0)) = W at *
 have HRB : Hid (t < w1.heap.size /\ sg < w1.heap.size /\ km < w1.heap.size /\ sg < w.heap.size /\ km < w.heap.size) := hid (by have := HLT.out; have := HB1.out.size; have hs9 := lt_of_block R1.out; have hz : w.heap.size <= w1.heap.size := hlb1; omega)
 generalize w1.heap.size = rb at *
 generalize hlb : w.heap.size = lb at *
 clear hWX HUP HSP b0
 have hTA := HTA.out.keep (hlb ▸ HB1.out)
 have HTW := hid hTA
 have HPN : Hid (∀ w1, Below W.heap.size W w1 -> Calls Tryz.prog 32 #[.pointer (some ⟨t, 0, none⟩), .agg #[.int .i64 r.1, .int .u32 r.2]] w1 fun e w' => e = .returned (.agg #[.int .i64 1, .string cd, .string vl, .string ⟨#[]⟩, .slice none 0 0, .slice none 0 0]) /\ Below w1.heap.size w1 w') := hid (fun w1 hw1 => node_at r.1 r.2 w1 (HTW.out.keep hw1) hLx)
 have n0 := cell_of R1.out 0
 have n1 := cell_of R1.out 1
 have t0 := cell_of hTA.ht 0
 have l0 := lt_of_block R1.out
 have l1 := lt_of_block hTA.ht
 clear hTA hLx
 go_region_with (go_at_call 32; refine (HPN.out _ (by (repeat (first | exact Below.refl _ _ | assumption | with_reducible refine Below.drew ?_ | with_reducible refine below_drewN ?_ | with_reducible refine Below.setCell ?_ (by first | (simp; done) | (simp; omega)) _ | with_reducible refine Below.alloc ?_ (by first | exact Nat.le_refl _ | (simp; done) | (simp; omega)) _)))).mono ?_; rintro e w2 ⟨rfl, hw2⟩; (try (have z := (hw2.block W.heap.size (by simp)).trans (z0a W (.cells #[.int .i64 0, .string ⟨#[]⟩, .string ⟨#[]⟩, .string ⟨#[]⟩, .slice none 0 0, .slice none 0 0] 102 (0, 0))); have z0 := cell_of z 0; have z1 := cell_of z 1; have z2 := cell_of z 2; have z3 := cell_of z 3; have z4 := cell_of z 4; have z5 := cell_of z 5; have zf := z0e z)); have HW2 : Hid (Below W.heap.size W w2) := hid (z0c (by (repeat (first | exact Below.refl _ _ | assumption | with_reducible refine Below.drew ?_ | with_reducible refine below_drewN ?_ | with_reducible refine Below.setCell ?_ (by first | (simp; done) | (simp; omega)) _ | with_reducible refine Below.alloc ?_ (by first | exact Nat.le_refl _ | (simp; done) | (simp; omega)) _))) hw2 (by first | exact Nat.le_refl _ | (simp; done) | (simp; omega))); clear hw2)
 all_goals first | (have hmid := nodeB (k := 1) (cd := cd) (vl := vl) (pt := ⟨#[]⟩) (ya := none) (za := none) (yn := 0) (yc := 0) (zn := 0) (zc := 0) HW2.out z; generalize hE : ((((((w2.setCell ⟨W.heap.size, 0, none⟩ (.int .i64 1)).setCell ⟨W.heap.size, 1, none⟩ (.string cd)).setCell ⟨W.heap.size, 2, none⟩ (.string vl)).setCell ⟨W.heap.size, 3, none⟩ (.string ⟨#[]⟩)).setCell ⟨W.heap.size, 4, none⟩ (.slice none 0 0)).setCell ⟨W.heap.size, 5, none⟩ (.slice none 0 0)) = w3 at hmid ⊢; generalize hEu : W.heap.size = u at hmid ⊢) | (have hmid := nmidA (o := (.cells #[.int .i64 1, .string cd, .string vl, .string ⟨#[]⟩, .slice none 0 0, .slice none 0 0] 102 (0, 0))) HW2.out; generalize hE : w2.alloc (.cells #[.int .i64 1, .string cd, .string vl, .string ⟨#[]⟩, .slice none 0 0, .slice none 0 0] 102 (0, 0)) = w3 at hmid ⊢; generalize hEu : w2.heap.size = u at hmid ⊢)
 all_goals
  try clear z z0 z1 z2 z3 z4 z5 zf
  clear hE hEu HPN n0 n1 t0 HW2 l0 l1 HTW
  obtain ⟨hb3, hu, ho⟩ := hmid
  have HB3 := hid ((hlb ▸ HB1.out).trans (hb3.mono (hlb ▸ HB1.out.size)))
  have hs3 := HS1.out.keep hb3
  have R3 := hid ((hb3.block _ (lt_of_block R1.out)).trans R1.out)
  have B3 := hid ((hb3.block _ (lt_of_block B1.out)).trans B1.out)
  have s0 := cell_of hs3.h 0
  have s2 := cell_of hs3.h 2
  have s3 := cell_of hs3.h 3
  rw [HWH.out] at s0
  have o1 := cell_of ho 1
  have HO3 := hid ho
  have HS3 := hid hs3
  have hul : w.heap.size <= u := by have := HB1.out.size; omega
  have hrx := fun w => run_byte (P := Tryz.prog) w 9 cd (s.depth + s.at_) y (by kernel_rfl) HY.out
  clear hs3 ho hb3
  have hsum : s.depth + s.at_ < cd.size := by
   have := (List.getElem?_eq_some_iff.1 HY.out).1
   rwa [z0z] at this
  have hrx' : ∀ w, (Instr.index 9 (.string cd) (.int .i64 ((s.depth : Int) + (s.at_ : Int)))).run Tryz.prog w = .ok (.int .u8 (y.toNat : Int)) w := hrx
  have HRX := hid hrx'
  clear hrx hrx'
  go_wp2_with fail
  refine z0h 13 (fun w1 => Below (w3).heap.size (w3) w1) (by kernel_rfl) (by kernel_rfl) (by kernel_rfl) ⟨rfl, rfl, rfl, Nat.le_refl _, fun _ _ => rfl⟩ ?_
  dsimp only [List.take]
  iterate 13
   refine Seq.cons (a' := ?_) ?_ ?_ ?_
   rotate_left
   ·intro w1 hw1
    have o1 := cell_of (z0b HO3.out hw1 (lt_of_block HO3.out)) 1
    have s2 := cell_of (z0b HS3.out.h hw1 (lt_of_block HS3.out.h)) 2
    have s3 := cell_of (z0b HS3.out.h hw1 (lt_of_block HS3.out.h)) 3
    have hrx := HRX.out
    go_wp2_with (fail)
    refine ⟨?_, by first | assumption | (simpa using z0c hw1 hb hw1.size)⟩
    exact rfl
   ·kernel_rfl
  refine SeqI.nil ?_
  intro _ w1 _ hw1
  dsimp only [List.drop]
  obtain ⟨W9, hW9⟩ : ∃ W9, W9 = w1 := ⟨_, rfl⟩
  subst hW9
  have hb9 := HB3.out.trans (hw1.mono HB3.out.size)
  have HB9 := hid hb9
  have R9 := hid (z0b R3.out hw1 (lt_of_block R3.out))
  have L9 := hid (z0b B3.out hw1 (lt_of_block B3.out))
  have HS9 := hid (HS3.out.keep hw1)
  have HT9 := hid (HTA.out.keep hb9)
  have HR9 := hid (HRE.out.keep hb9)
  have HRM9 := hid (HRM.out.keep hb9)
  have HM9 : Hid (Mod (TOwn sg km) w W9) := hid (Mod.z0n hb9)
  have hlt := HLT.out
  have hl9 := hb9.size
  have HLT9 : Hid (t < W9.heap.size /\ sb < W9.heap.size /\ sg < W9.heap.size /\ kb < W9.heap.size /\ km < W9.heap.size) := hid (by omega)
  have HNB := hid hnb
  have HNB2 : Hid (¬ TOwn sg km rb /\ ¬ TOwn sg km lb) := hid (by have := HRB.out; refine ⟨?_, ?_⟩ <;> rintro (e | e) <;> omega)
  have hes : (c.extract s.depth c.size).size = c.size - s.depth := by simp
  have hxl : s.at_ < c.size - s.depth := by
   have := (List.getElem?_eq_some_iff.1 HX.out).1
   rw [z0z] at this
   rw [<- hes]
   exact this
  have hri : ∀ w, (Instr.index 9 (.string (c.extract s.depth c.size)) (.int .i64 s.at_)).run Tryz.prog w = .ok (.int .u8 (x.toNat : Int)) w := fun w => run_byte w _ (rst c s.depth) s.at_ x (by kernel_rfl) HX.out
  have HNF := hid (fun w1 => nfork_at ((c.extract s.depth c.size).extract 0 s.at_) ⟨y.toNat, r.1, r.2⟩ ⟨x.toNat, lf.1, lf.2⟩ w1 (by simp; omega) hkr hkl (fun e => hxy (UInt8.toNat_inj.1 (by have e' : (y.toNat : Int) = x.toNat := e; omega))))
  have HES := hid hes
  have HXL := hid hxl
  have HRI := hid hri
  have HFJ := hid hF
  obtain ⟨cj, hcj, _, hcg, hcr⟩ := HRE.out.cell hj
  have HCJ := hid (And.intro hcj (And.intro hcg (hcr.trans hjr)))
  have HRR := hid (And.intro hr1 hr2)
  have HU1 := hid (fun w1 (hs1 : SpotAt w1 b g wc s) => up_at (k := 1) hs1 (by omega) HUL.out)
  have H0 := hid h0
  have HQU := hid hqu
  have HJU := hid hju
  have HKJ := hid hkj
  have HKF := hid hkf
  have HKS := hid (And.intro hks hkg)
  have HKN := hid hkn
  have HKO := hid hok
  clear hw1 hb9 HB3 HS3 R3 B3 HRX HO3 HTA hcj hcg hcr hes hxl hri hlt hl9 HRE HRM hnb hF hj hjr hr1 hr2 hkj hkf hks hkg hkn hok hqu hju h0 hkr hkl hxy hqr
  go_wp2_with fail
  have hok : RJOk (TOwn sg km) (fun w1 => TreeAt w1 t sb sg kb km l L tk) (fun w1 => ∃ gb gk, TreeAt w1 t sb sg kb km ((l).set j ⟨true, (⟨2, ⟨#[]⟩, ⟨#[]⟩, ((c.extract s.depth c.size).extract 0 s.at_), ⟨some ⟨gb, 0, none⟩, 2, 2⟩, ⟨some ⟨gk, 0, none⟩, 2, 2⟩, false, false⟩ : Nd), pj.gen + 1⟩) (K.addL L rr).2 tk /\ O.NodeIn w1 2 ((c.extract s.depth c.size).extract 0 s.at_) (some ⟨gb, 0, none⟩) 2 2 (some ⟨gk, 0, none⟩) 2 2 (z1k ⟨y.toNat, r.1, r.2⟩ ⟨x.toNat, lf.1, lf.2⟩) /\ W9.heap.size <= gb /\ W9.heap.size <= gk) (fun w1 v => ∃ gb gk, v = .agg #[.int .i64 2, .string ⟨#[]⟩, .string ⟨#[]⟩, .string ((c.extract s.depth c.size).extract 0 s.at_), .slice (some ⟨gb, 0, none⟩) 2 2, .slice (some ⟨gk, 0, none⟩) 2 2] /\ O.NodeIn w1 2 ((c.extract s.depth c.size).extract 0 s.at_) (some ⟨gb, 0, none⟩) 2 2 (some ⟨gk, 0, none⟩) 2 2 (z1k ⟨y.toNat, r.1, r.2⟩ ⟨x.toNat, lf.1, lf.2⟩) /\ W9.heap.size <= gb /\ W9.heap.size <= gk) W9 36 #[.int .i64 0, .int .u32 0] := by
   have kn : ∀ w w' gb gk, O.NodeIn w 2 ((c.extract s.depth c.size).extract 0 s.at_) (some ⟨gb, 0, none⟩) 2 2 (some ⟨gk, 0, none⟩) 2 2 (z1k ⟨y.toNat, r.1, r.2⟩ ⟨x.toNat, lf.1, lf.2⟩) -> Below w.heap.size w w' -> O.NodeIn w' 2 ((c.extract s.depth c.size).extract 0 s.at_) (some ⟨gb, 0, none⟩) 2 2 (some ⟨gk, 0, none⟩) 2 2 (z1k ⟨y.toNat, r.1, r.2⟩ ⟨x.toNat, lf.1, lf.2⟩) := fun w w' gb gk h hb => h.keep hb
   have ko : ∀ w w' u gb gk, w.heap[u]? = some (.cells #[.int .i64 0, .int .u32 0] 36 (0, 0)) -> Mod (· = u) w w' -> O.NodeIn w 2 ((c.extract s.depth c.size).extract 0 s.at_) (some ⟨gb, 0, none⟩) 2 2 (some ⟨gk, 0, none⟩) 2 2 (z1k ⟨y.toNat, r.1, r.2⟩ ⟨x.toNat, lf.1, lf.2⟩) -> O.NodeIn w' 2 ((c.extract s.depth c.size).extract 0 s.at_) (some ⟨gb, 0, none⟩) 2 2 (some ⟨gk, 0, none⟩) 2 2 (z1k ⟨y.toNat, r.1, r.2⟩ ⟨x.toNat, lf.1, lf.2⟩) := fun w w' u gb gk hu hM h => by
    have h1 : gb ≠ u := O.z1h h.b hu (by decide) gb rfl
    obtain ⟨g', eg, _, hc⟩ := O.z0x h.z (by rw [forkK_len]; omega)
    have h2 : gk ≠ u := fun e => by
     have e2 : gk = g' := by injection eg with eg; injection eg
     have hl3 : 3 < (z2p (z1k ⟨y.toNat, r.1, r.2⟩ ⟨x.toNat, lf.1, lf.2⟩)).length := by rw [kidsL_len, forkK_len]; omega
     have := hc 3 _ (List.getElem?_eq_getElem hl3)
     rw [<- e2, e, cell_of hu 3] at this
     simp at this
    exact ⟨O.z0g h.b hM (fun k hk e => by simp only [Value.ownBlock, Option.some.injEq] at hk; have : k = u := e; omega), O.z0g h.z hM (fun k hk e => by simp only [Value.ownBlock, Option.some.injEq] at hk; have : k = u := e; omega), h.k1, h.k2, h.p, h.len, h.rise, h.ok⟩
   have kt : ∀ w w' gb gk, W9.heap.size <= gb -> W9.heap.size <= gk -> Mod (TOwn sg km) w w' -> O.NodeIn w 2 ((c.extract s.depth c.size).extract 0 s.at_) (some ⟨gb, 0, none⟩) 2 2 (some ⟨gk, 0, none⟩) 2 2 (z1k ⟨y.toNat, r.1, r.2⟩ ⟨x.toNat, lf.1, lf.2⟩) -> O.NodeIn w' 2 ((c.extract s.depth c.size).extract 0 s.at_) (some ⟨gb, 0, none⟩) 2 2 (some ⟨gk, 0, none⟩) 2 2 (z1k ⟨y.toNat, r.1, r.2⟩ ⟨x.toNat, lf.1, lf.2⟩) := fun w w' gb gk l1 l2 hM h => ⟨O.z0g h.b hM (fun k hk => by simp only [Value.ownBlock, Option.some.injEq] at hk; exact (fun {k : Nat} (hk : W9.heap.size <= k) => (show ¬ TOwn sg km k by have := HLT9.out; rintro (e | e) <;> omega)) (by omega)), O.z0g h.z hM (fun k hk => by simp only [Value.ownBlock, Option.some.injEq] at hk; exact (fun {k : Nat} (hk : W9.heap.size <= k) => (show ¬ TOwn sg km k by have := HLT9.out; rintro (e | e) <;> omega)) (by omega)), h.k1, h.k2, h.p, h.len, h.rise, h.ok⟩
   have hl := HLT9.out
   refine ⟨fun w w' h hb => h.keep hb, ?_, ?_, fun w w' u hu hc hM h => h.mod hM (show ¬ t = u by omega) (show ¬ sb = u by omega) (show ¬ sg = u by omega) (show ¬ kb = u by omega) (show ¬ km = u by omega), ?_, ?_, ?_, ?_⟩
   ·rintro w w' ⟨gb, gk, h1, h2, h3⟩ hb
    exact ⟨gb, gk, h1.keep hb, kn _ _ _ _ h2 hb, h3⟩
   ·rintro w w' v ⟨gb, gk, h1, h2, h3⟩ hb
    exact ⟨gb, gk, h1, kn _ _ _ _ h2 hb, h3⟩
   ·rintro w w' u hu hc hM ⟨gb, gk, h1, h2, h3⟩
    exact ⟨gb, gk, h1.mod hM (show ¬ t = u by omega) (show ¬ sb = u by omega) (show ¬ sg = u by omega) (show ¬ kb = u by omega) (show ¬ km = u by omega), ko _ _ _ _ _ hc hM h2, h3⟩
   ·rintro w w' u v hu hc hM ⟨gb, gk, h1, h2, h3⟩
    exact ⟨gb, gk, h1, ko _ _ _ _ _ hc hM h2, h3⟩
   ·rintro w w' v hM ⟨gb, gk, h1, h2, h3⟩
    exact ⟨gb, gk, h1, kt _ _ _ _ h3.1 h3.2 hM h2, h3⟩
   ·rintro k (e | e) <;> omega
  have HOK := hid hok
  clear hok
  refine z0r 26 [18, 23] (fun xs => [.pointer (some ⟨t, 0, none⟩), .pointer (some ⟨t, 0, none⟩), .pointer (some ⟨t, 0, none⟩), .string (c.extract s.depth c.size), .pointer (some ⟨b, 0, none⟩), .pointer (some ⟨b, 0, none⟩), .pointer (some ⟨b, 2, none⟩), .int .i64 s.at_, .string ((c.extract s.depth c.size).extract 0 s.at_), .int .u8 y.toNat, .agg #[.int .i64 r.1, .int .u32 r.2], .string (c.extract s.depth c.size), .pointer (some ⟨b, 0, none⟩), .pointer (some ⟨b, 0, none⟩), .pointer (some ⟨b, 2, none⟩), .int .i64 s.at_, .int .u8 x.toNat, .agg #[.int .i64 lf.1, .int .u32 lf.2], xs 18, .tuple #[.agg #[.int .i64 j, .int .u32 (pj.gen + 1)], .int .i64 0], .tuple #[.agg #[.int .i64 j, .int .u32 (pj.gen + 1)], .int .i64 0], .agg #[.int .i64 j, .int .u32 (pj.gen + 1)], .int .i64 0, xs 23, undef, .int .i64 0]) (RJ (TOwn sg km) (fun w1 => TreeAt w1 t sb sg kb km l L tk) (fun w1 => ∃ gb gk, TreeAt w1 t sb sg kb km ((l).set j ⟨true, (⟨2, ⟨#[]⟩, ⟨#[]⟩, ((c.extract s.depth c.size).extract 0 s.at_), ⟨some ⟨gb, 0, none⟩, 2, 2⟩, ⟨some ⟨gk, 0, none⟩, 2, 2⟩, false, false⟩ : Nd), pj.gen + 1⟩) (K.addL L rr).2 tk /\ O.NodeIn w1 2 ((c.extract s.depth c.size).extract 0 s.at_) (some ⟨gb, 0, none⟩) 2 2 (some ⟨gk, 0, none⟩) 2 2 (z1k ⟨y.toNat, r.1, r.2⟩ ⟨x.toNat, lf.1, lf.2⟩) /\ W9.heap.size <= gb /\ W9.heap.size <= gk) (fun w1 v => ∃ gb gk, v = .agg #[.int .i64 2, .string ⟨#[]⟩, .string ⟨#[]⟩, .string ((c.extract s.depth c.size).extract 0 s.at_), .slice (some ⟨gb, 0, none⟩) 2 2, .slice (some ⟨gk, 0, none⟩) 2 2] /\ O.NodeIn w1 2 ((c.extract s.depth c.size).extract 0 s.at_) (some ⟨gb, 0, none⟩) 2 2 (some ⟨gk, 0, none⟩) 2 2 (z1k ⟨y.toNat, r.1, r.2⟩ ⟨x.toNat, lf.1, lf.2⟩) /\ W9.heap.size <= gb /\ W9.heap.size <= gk) W9 36 #[.int .i64 0, .int .u32 0] (fun _ => #[.int .i64 j, .int .u32 (pj.gen + 1)]) false 18 19 23 24 [] [] (fun _ => undef) (fun _ x => x)) ?h0 (fun xs ys h => by simp [h]) ?hs ?hend
  case h0 => exact RJ.start (HT9.out.keep (Below.refl _ _).drew)
  case hs =>
   dsimp only [List.take, z1a, OpT, z1n]
   (repeat' refine And.intro ?_ ?_) <;> first | refine .inl ⟨rfl, ?_⟩ | refine .inr ⟨rfl, ?_⟩
   iterate 18
    ·intro D xs w1 hDk hwt hJ
     have s2 := cell_of (HS9.out.mod' hJ.m HNB.out.1 HNB.out.2).h 2; have hR := (hJ.m.block rb (lt_of_block R9.out) HNB2.out.1).trans R9.out; have n0 := cell_of hR 0; have n1 := cell_of hR 1; have hL := (hJ.m.block lb (lt_of_block L9.out) HNB2.out.2).trans L9.out; have m0 := cell_of hL 0; have m1 := cell_of hL 1; have hxl := HXL.out; have hes := HES.out; have hri := HRI.out; clear hR hL
     have HJ := hid hJ
     clear hDk hwt hJ
     go_wp2_with fail
     exact ⟨by kernel_rfl, fun _ _ => RJ.calm HOK.out HJ.out (Below.refl _ _)⟩
   ·intro D xs w1 hDk hwt hJ
    have hD : D 18 = false := hDk
    have hsz := hJ.m.size
    have HJ := hid hJ
    clear hDk hwt hJ
    go_wp2_with (go_at_call 72; refine (HNF.out _).mono ?_; rintro e w2 ⟨gb, gk, rfl, hN2, hb2, hgb, hgk⟩)
    exact ⟨_, by kernel_rfl, fun q hq => by obtain rfl := hq rfl; exact RJ.call HOK.out HJ.out (.inr fun _ _ => rfl) hD ⟨gb, gk, rfl, hN2, by omega, by omega⟩ hb2⟩
   ·intro D xs w1 hDk hwt hJ
    have hD : D 19 = false := hDk
    obtain ⟨gb, gk, ea, hN, hgb, hgk⟩ := hJ.l (hwt 18 (eM (by kernel_rfl)))
    rw [ea]
    have hp := hJ.p
    rw [hD] at hp
    simp only [cond_false] at hp
    have htk := take_at 2 ⟨#[]⟩ ⟨#[]⟩ ((c.extract s.depth c.size).extract 0 s.at_) (some ⟨gb, 0, none⟩) (some ⟨gk, 0, none⟩) 2 2 2 2 false w1 hp (HR9.out.first HFJ.out) HCJ.out.1 HCJ.out.2.2 rr HRR.out.1 (by rw [HRR.out.2, HCJ.out.2.1])
    rw [HCJ.out.2.1] at htk
    have HTK := hid htk
    have HEA := hid ea
    have HN := hid hN
    clear hp htk ea hN
    have HJ := hid hJ
    clear hDk hwt hJ
    go_wp2_with (go_at_call 34; refine HTK.out.mono ?_; rintro e w2 ⟨rfl, hT2, hM2⟩)
    have hl9 := HLT9.out
    have hp1 : (fun w1 => ∃ gb gk, TreeAt w1 t sb sg kb km ((l).set j ⟨true, (⟨2, ⟨#[]⟩, ⟨#[]⟩, ((c.extract s.depth c.size).extract 0 s.at_), ⟨some ⟨gb, 0, none⟩, 2, 2⟩, ⟨some ⟨gk, 0, none⟩, 2, 2⟩, false, false⟩ : Nd), pj.gen + 1⟩) (K.addL L rr).2 tk /\ O.NodeIn w1 2 ((c.extract s.depth c.size).extract 0 s.at_) (some ⟨gb, 0, none⟩) 2 2 (some ⟨gk, 0, none⟩) 2 2 (z1k ⟨y.toNat, r.1, r.2⟩ ⟨x.toNat, lf.1, lf.2⟩) /\ W9.heap.size <= gb /\ W9.heap.size <= gk) w2 := ⟨gb, gk, hT2, ⟨O.z0g HN.out.b hM2 (fun k hk => by simp only [Value.ownBlock, Option.some.injEq] at hk; exact (fun {k : Nat} (hk : W9.heap.size <= k) => (show ¬ TOwn sg km k by have := HLT9.out; rintro (e | e) <;> omega)) (by omega)), O.z0g HN.out.z hM2 (fun k hk => by simp only [Value.ownBlock, Option.some.injEq] at hk; exact (fun {k : Nat} (hk : W9.heap.size <= k) => (show ¬ TOwn sg km k by have := HLT9.out; rintro (e | e) <;> omega)) (by omega)), HN.out.k1, HN.out.k2, HN.out.p, HN.out.len, HN.out.rise, HN.out.ok⟩, hgb, hgk⟩
    exact ⟨by kernel_rfl, fun q hq => by obtain rfl := hq rfl; exact RJ.turn HOK.out HJ.out hp1 hM2⟩
   iterate 3
    ·intro D xs w1 hDk hwt hJ
     skip
     have HJ := hid hJ
     clear hDk hwt hJ
     go_wp2_with fail
     exact ⟨by kernel_rfl, fun _ _ => RJ.calm HOK.out HJ.out (Below.refl _ _)⟩
   ·intro D xs w1 hDk hwt hJ
    have hD : D 23 = false := hDk
    have HJ := hid hJ
    clear hDk hwt hJ
    go_wp2_with fail
    exact ⟨_, by kernel_rfl, fun q hq => by obtain rfl := hq rfl; exact RJ.alloc HOK.out HJ.out hD⟩
   ·intro D xs w1 hDk hwt hJ
    have hD : D 24 = false := hDk
    have hA := hwt 23 (eM (by kernel_rfl))
    obtain ⟨b0, hb0, eb0, hc0⟩ := hJ.a hA
    rw [eb0]
    have HEB := hid eb0
    clear eb0
    rw [hD] at hc0
    simp only [cond_false] at hc0
    have q0 := cell_of hc0 0
    have q1 := cell_of hc0 1
    have qf := z0e hc0
    have HC := hid hc0
    clear hc0
    have HJ := hid hJ
    clear hDk hwt hJ
    go_wp2_with fail
    obtain ⟨m1, m2⟩ := set2_mod (v := .int .i64 j) (v' := .int .u32 (pj.gen + 1)) HC.out
    exact ⟨by kernel_rfl, fun q _ => RJ.store HOK.out HJ.out hD (fun e => by cases e) hA HEB.out m2 m1⟩
   ·intro D xs w1 hDk hwt hJ
    skip
    have HJ := hid hJ
    clear hDk hwt hJ
    go_wp2_with fail
    exact ⟨by kernel_rfl, fun _ _ => RJ.calm HOK.out HJ.out (Below.refl _ _)⟩
  case hend =>
   intro D xs w10 hD hJ
   have hp := hJ.p
   rw [hD 19 (by omega)] at hp
   simp only [cond_true] at hp
   obtain ⟨gb, gk, hTA, hN, hgb, hgk⟩ := hp
   obtain ⟨u, hu, eu, hc⟩ := hJ.a (hD 23 (by omega))
   rw [hD 24 (by omega)] at hc
   simp only [cond_true] at hc
   have hM := hJ.m
   have HP10 : Hid (z1c w10 t sb sg kb km ((P).set j ⟨true, ⟨.z0j 2 ((rst c s.depth).extract 0 s.at_) (z1k ⟨y.toNat, r.1, r.2⟩ ⟨x.toNat, lf.1, lf.2⟩), false, false⟩, pj.gen + 1⟩) (K.addL L rr).2 tk) := hid ⟨_, hTA, Rel.set (x := (⟨2, ⟨#[]⟩, ⟨#[]⟩, ((c.extract s.depth c.size).extract 0 s.at_), ⟨some ⟨gb, 0, none⟩, 2, 2⟩, ⟨some ⟨gk, 0, none⟩, 2, 2⟩, false, false⟩ : Nd)) (q := ⟨.z0j 2 ((rst c s.depth).extract 0 s.at_) (z1k ⟨y.toNat, r.1, r.2⟩ ⟨x.toNat, lf.1, lf.2⟩), false, false⟩) (HR9.out.mod hM HT9.out.noRow) true (fun _ => ⟨rfl, rfl, rfl, rfl, rfl, rfl, hN, forkK_may _ _ _⟩)⟩
   have HS10 := hid (HS9.out.mod' hM HNB.out.1 HNB.out.2)
   have R10 := hid ((hM.block rb (lt_of_block R9.out) HNB2.out.1).trans R9.out)
   have U10 : Hid (w10.heap[u]? = some (.cells #[.int .i64 j, .int .u32 (pj.gen + 1)] 36 (0, 0))) := hid hc
   have HRM10 := hid (z1s HRM9.out hM H0.out)
   have HM10 := hid (HM9.out.trans hM (fun _ _ h => h))
   have hlt9 := HLT9.out
   have HNS : Hid (¬ rb = sg /\ ¬ u = sg /\ ¬ b = sg /\ ¬ g = sg) := hid ⟨fun e => HNB2.out.1 (.inl e), by omega, fun e => HNB.out.1 (.inl e), fun e => HNB.out.2 (.inl e)⟩
   have HLU : Hid (z0k ((P).set j ⟨true, ⟨.z0j 2 ((rst c s.depth).extract 0 s.at_) (z1k ⟨y.toNat, r.1, r.2⟩ ⟨x.toNat, lf.1, lf.2⟩), false, false⟩, pj.gen + 1⟩) u0.1 u0.2 iu ⟨.z0j k pt Lk, pl, di⟩) := hid (by obtain ⟨e, p, h1, h2⟩ := HQU.out; exact ⟨e, p, by rw [List.getElem?_set_ne HJU.out]; exact h1, h2⟩)
   dsimp only [List.take, z1n, List.drop]
   rw [eu]
   clear hD hJ hTA hN hgb hgk hu eu hc hM hlt9 HOK
   go_wp2_with fail
   refine z0f 8 (Turn 7 (KidJ w10 t sb sg kb km ((P).set j ⟨true, ⟨.z0j 2 ((rst c s.depth).extract 0 s.at_) (z1k ⟨y.toNat, r.1, r.2⟩ ⟨x.toNat, lf.1, lf.2⟩), false, false⟩, pj.gen + 1⟩) (K.addL L rr).2 tk) (KidJ w10 t sb sg kb km ((((P).set j ⟨true, ⟨.z0j 2 ((rst c s.depth).extract 0 s.at_) (z1k ⟨y.toNat, r.1, r.2⟩ ⟨x.toNat, lf.1, lf.2⟩), false, false⟩, pj.gen + 1⟩)).set iu ⟨true, ⟨.z0j k pt (z1o Lk kk.b j (pj.gen + 1)), pl, di⟩, u0.2⟩) (K.addL L rr).2 tk)) (by kernel_rfl) (by kernel_rfl) (by kernel_rfl) (Turn.start ⟨(Mod.refl (· = sg) w10).drew, HP10.out.keep (Below.refl _ _).drew⟩) ?_
   dsimp only [List.take]
   iterate 7
    refine Seq.calm (a' := ?_) (by decide) ?_ ?_ ?_
    rotate_left
    ·intro w1 hw1
     have hM : Mod (· = sg) w10 w1 := hw1.elim KidJ.m KidJ.m; have n0 := cell_of ((hM.block rb (lt_of_block R10.out) HNS.out.1).trans R10.out) 0; have n1 := cell_of ((hM.block rb (lt_of_block R10.out) HNS.out.1).trans R10.out) 1; have m0 := cell_of ((hM.block u (lt_of_block U10.out) HNS.out.2.1).trans U10.out) 0; have m1 := cell_of ((hM.block u (lt_of_block U10.out) HNS.out.2.1).trans U10.out) 1; have HUX := hid (HU1.out w1 (HS10.out.mod' hM HNS.out.2.2.1 HNS.out.2.2.2)); clear hM
     go_wp2_with (go_at_call 31; refine HUX.out.mono ?_; rintro e w' ⟨rfl, hb⟩)
     first | (refine ⟨?_, id, id⟩; exact rfl) | (refine ⟨?_, (fun h => KidJ.keep h hb), (fun h => KidJ.keep h hb)⟩; exact rfl)
    ·kernel_rfl
   refine Seq.turn (a' := ?_) ?_ ?_ ?_
   rotate_left
   ·intro w1 hw1
    have HM := hid hw1.m
    have HTT := hid hw1.t
    have HRMX := hid (z1s HRM10.out hw1.m (fun e => H0.out (.inl e)))
    clear hw1
    go_wp2_with (go_at_call 38; refine (kid_P u0.1 u0.2 r.1 r.2 j (pj.gen + 1) w1 HTT.out HRMX.out HLU.out HKJ.out HKF.out HKS.out.1 HKS.out.2 HKN.out HKO.out).mono ?_; rintro e w2 ⟨rfl, hT, hX⟩)
    refine ⟨?_, HM.out.trans hX (fun _ _ h => h), hT⟩
    exact rfl
   ·kernel_rfl
   iterate 0
    refine Seq.calm (a' := ?_) (by decide) ?_ ?_ ?_
    rotate_left
    ·intro w1 hw1
     have hM : Mod (· = sg) w10 w1 := hw1.elim KidJ.m KidJ.m; have n0 := cell_of ((hM.block rb (lt_of_block R10.out) HNS.out.1).trans R10.out) 0; have n1 := cell_of ((hM.block rb (lt_of_block R10.out) HNS.out.1).trans R10.out) 1; have m0 := cell_of ((hM.block u (lt_of_block U10.out) HNS.out.2.1).trans U10.out) 0; have m1 := cell_of ((hM.block u (lt_of_block U10.out) HNS.out.2.1).trans U10.out) 1; have HUX := hid (HU1.out w1 (HS10.out.mod' hM HNS.out.2.2.1 HNS.out.2.2.2)); clear hM
     go_wp2_with (go_at_call 31; refine HUX.out.mono ?_; rintro e w' ⟨rfl, hb⟩)
     first | (refine ⟨?_, id, id⟩; exact rfl) | (refine ⟨?_, (fun h => KidJ.keep h hb), (fun h => KidJ.keep h hb)⟩; exact rfl)
    ·kernel_rfl
   refine SeqI.nil ?_
   intro D w1 hD hI
   replace hI := hI.done (hD 7 (by omega))
   clear hD
   dsimp only [List.drop]
   have HI := hid hI
   clear hI
   go_wp2_with fail
   go_end0
   exact ⟨rfl, HI.out.t, HM10.out.trans HI.out.m (fun _ _ h => .inl h)⟩
end Go.Proofs.YtgdmfledhhoedaaGreatDoor.T
namespace Go.Burg
open Go Go.RowKit
theorem z2q.set {α : Type} {P : List (Cel α)} {j : Int} {i : Nat} {p c : Cel α} (h : z2q P j) (hp : P[i]? = some p) (h1 : p.room = false) (h2 : c.room = false) : z2q (P.set i c) j := by
 have hil : i < P.length := (List.getElem?_eq_some_iff.1 hp).1
 have old : ∀ k d, (P.set i c)[k]? = some d -> k ≠ i -> P[k]? = some d := fun k d hd hk => by rwa [List.getElem?_set_ne (fun e => hk e.symm)] at hd
 rcases h with ⟨k, d, rfl, g1, g2, g3⟩ | ⟨rfl, g⟩
 ·have hki : k ≠ i := fun e => by
   subst e
   rw [hp] at g1
   cases g1
   rw [h1] at g2
   cases g2
  refine .inl ⟨k, d, rfl, by rw [List.getElem?_set_ne (fun e => hki e.symm)]; exact g1, g2, fun m hm d' hd' => ?_⟩
  by_cases e : m = i
  ·subst e
   rw [List.getElem?_set_self hil] at hd'
   cases hd'
   exact h2
  ·exact g3 m hm d' (old m d' hd' e)
 ·refine .inr ⟨rfl, fun m d' hd' => ?_⟩
  by_cases e : m = i
  ·subst e
   rw [List.getElem?_set_self hil] at hd'
   cases hd'
   exact h2
  ·exact g m d' (old m d' hd' e)
variable {g s : Int} {P : List (Cel PNd)} {i : Nat} {q : PNd}
theorem z0k.noroom (h : z0k P s g i q) : ∃ p, P[i]? = some p /\ p.room = false := by
 obtain ⟨_, p, h1, h2, _⟩ := h
 exact ⟨p, h1, by unfold Cel.room; rw [h2]; rfl⟩
theorem z0k.z1f {j : Nat} {c : Cel PNd} (h : z0k P s g i q) (hne : j ≠ i) : z0k (P.set j c) s g i q := by
 obtain ⟨e, p, h1, h2⟩ := h
 exact ⟨e, p, by rw [List.getElem?_set_ne hne]; exact h1, h2⟩
end Go.Burg
namespace Go.Proofs.YtgdmfledhhoedaaGreatDoor.T
set_option maxRecDepth 8000
open Go.ChangeShapes Go.WideShapes Go.ChangeAt Go.RowKit Go.Burg
open Go.Burg.Lk
set_option maxRecDepth 20000 in
set_option maxHeartbeats 8000000 in
theorem tfork_split {t sb sg kb km ir iu j jj k kr b g wc : Nat} {P : List (Cel PNd)} {L : List (RefK × Wd)} {tk : Int} {c ptr pt : ByteArray} {s : SpotP} {r u0 lf : Int × Int} {Lk Lr : List Kd} {pl di plr dir : Bool} {pj : Cel PNd} {kk : Kd} {x y : UInt8} (w : World) (h : z1c w t sb sg kb km P L tk) (hr : RoomsAt w) (h0 : ¬ TOwn sg km 0)
 (hs : SpotAt w b g wc s) (hw : s.what = 3) (hnb : ¬ TOwn sg km b /\ ¬ TOwn sg km g) (_hc : c.size <= 1000) (hrl : s.way[s.way.length - 1]? = some r) (h2 : 2 <= s.way.length) (hul : s.way[s.way.length - 1 - 1]? = some u0) (hqr : z0k P r.1 r.2 ir ⟨.z0j kr ptr Lr, plr, dir⟩) (hqu : z0k P u0.1 u0.2 iu ⟨.z0j k pt Lk, pl, di⟩)
 (hF : z2q P (j : Int)) (hj : P[j]? = some pj) (hjr : pj.room = true) (hju : j ≠ iu) (hji : j ≠ ir) (hru : ir ≠ iu) (rr : RefK) (hr1 : rr.1.1 = j) (hr2 : rr.1.2 = pj.gen + 1) (hd : s.depth <= c.size) (hx : (byt (rst c s.depth))[s.at_]? = some x) (hy : (byt ptr)[s.at_]? = some y) (hxy : x ≠ y) (hat : s.at_ <= 34)
 (hkr : (⟨y.toNat, r.1, r.2⟩ : Kd).ok) (hkl : (⟨x.toNat, lf.1, lf.2⟩ : Kd).ok) (hkj : Lk[jj]? = some kk) (hkf : z0o Lk kk.b = some kk) (hks : kk.s = r.1) (hkg : kk.g = r.2) (hkn : ∀ i k, i < jj -> Lk[i]? = some k -> ¬ (k.s = r.1 /\ k.g = r.2)) (hok : (⟨kk.b, j, pj.gen + 1⟩ : Kd).ok) :
 Calls Tryz.prog 35 #[.pointer (some ⟨t, 0, none⟩), .pointer (some ⟨b, 0, none⟩), .string c, .agg #[.int .i64 lf.1, .int .u32 lf.2]] w fun e w' => e = .returned (.tuple #[]) /\
  z1c w' t sb sg kb km ((((P.set ir ⟨true, ⟨.z0j kr (ptr.extract (s.at_ + 1) ptr.size) Lr, plr, dir⟩, r.2⟩)).set j ⟨true, ⟨.z0j 2 ((rst c s.depth).extract 0 s.at_) (z1k ⟨y.toNat, r.1, r.2⟩ ⟨x.toNat, lf.1, lf.2⟩), false, false⟩, pj.gen + 1⟩).set iu ⟨true, ⟨.z0j k pt (z1o Lk kk.b j (pj.gen + 1)), pl, di⟩, u0.2⟩) (K.addL L rr).2 tk /\ Mod (TOwn sg km) w w' := by
 have b0 := z0a w (.cells #[.int .i64 lf.1, .int .u32 lf.2] 36 (0, 0))
 have hB : Below w.heap.size w (w.alloc (.cells #[.int .i64 lf.1, .int .u32 lf.2] 36 (0, 0))) := (Below.refl _ _).alloc (Nat.le_refl _) _
 have HUP := hid (up_at (k := 0) (hs.keep hB) (by omega) (by simpa using hrl))
 have HH := hid h
 obtain ⟨l, ya, yc, za, zc, hTA, hRE, hLx, hNX, hMX⟩ := h.z0j hqr
 have HTA := hid hTA
 have HNX := hid hNX
 have HRM := hid hr
 have HSP := hid (hs.keep hB)
 have HLT := hid h.lt
 have hbg : b < w.heap.size /\ g < w.heap.size := ⟨lt_of_block hs.h, hs.glt⟩
 have HBG := hid hbg
 have HUL := hid hul
 have HX := hid hx
 have HY := hid hy
 have HWH := hid hw
 have hyl : s.at_ < ptr.size := by
  have := (List.getElem?_eq_some_iff.1 hy).1
  rwa [z0z] at this
 have HMB : Hid (O.MayB kr Lr.length (ptr.extract (s.at_ + 1) ptr.size)) := hid (by
  rcases hMX with e | ⟨_, e⟩
  ·exact .inl e
  ·subst e
   exact absurd hyl (Nat.not_lt_zero _))
 have HYL := hid hyl
 clear h hr hs hbg hul hrl hx hy hw hTA hRE hNX hMX hyl
 go_enter Tryz.func35, Tryz.ntmps35
 go_wp2_with (go_at_call 31; refine HUP.out.mono ?_; rintro e w1 ⟨rfl, hb1⟩; go_loud (have r1 := z0a w1 (.cells #[.int .i64 r.1, .int .u32 r.2] 36 (0, 0)); have hbr : Below w1.heap.size w1 (w1.alloc (.cells #[.int .i64 r.1, .int .u32 r.2] 36 (0, 0))) := (Below.refl _ _).alloc (Nat.le_refl _) _; have hb := hb1.trans (hbr.mono hb1.size); have HS1 := hid (HSP.out.keep hb); have HB1 := hid (hB.trans (hb.mono hB.size)); have R1 := hid r1; have hlb1 : w.heap.size <= w1.heap.size := (by have := hb1.size; simp at this; omega); have B1 := hid ((hb.block _ (lt_of_block b0)).trans b0); clear hb1 r1 hbr hb))
 generalize hWX : w1.alloc (.cells #[.int .i64 r.1, .int .u32 r.2] 36 (0, 0)) = W at *
 have HRB : Hid (t < w1.heap.size /\ sg < w1.heap.size /\ km < w1.heap.size /\ sg < w.heap.size /\ km < w.heap.size) := hid (by have := HLT.out; have := HB1.out.size; have hs9 := lt_of_block R1.out; have hz : w.heap.size <= w1.heap.size := hlb1; omega)
 generalize w1.heap.size = rb at *
 generalize hlb : w.heap.size = lb at *
 clear hWX HUP HSP b0
 have hTA := HTA.out.keep (hlb ▸ HB1.out)
 have HTW := hid hTA
 have HPN : Hid (∀ w1, Below W.heap.size W w1 -> Calls Tryz.prog 32 #[.pointer (some ⟨t, 0, none⟩), .agg #[.int .i64 r.1, .int .u32 r.2]] w1 fun e w' => e = .returned (.agg #[.int .i64 kr, .string ⟨#[]⟩, .string ⟨#[]⟩, .string ptr, .slice ya Lr.length yc, .slice za Lr.length zc]) /\ Below w1.heap.size w1 w') := hid (fun w1 hw1 => node_at r.1 r.2 w1 (HTW.out.keep hw1) hLx)
 have n0 := cell_of R1.out 0
 have n1 := cell_of R1.out 1
 have t0 := cell_of hTA.ht 0
 have l0 := lt_of_block R1.out
 have l1 := lt_of_block hTA.ht
 clear hTA hLx
 go_region_with (go_at_call 32; refine (HPN.out _ (by (repeat (first | exact Below.refl _ _ | assumption | with_reducible refine Below.drew ?_ | with_reducible refine below_drewN ?_ | with_reducible refine Below.setCell ?_ (by first | (simp; done) | (simp; omega)) _ | with_reducible refine Below.alloc ?_ (by first | exact Nat.le_refl _ | (simp; done) | (simp; omega)) _)))).mono ?_; rintro e w2 ⟨rfl, hw2⟩; (try (have z := (hw2.block W.heap.size (by simp)).trans (z0a W (.cells #[.int .i64 0, .string ⟨#[]⟩, .string ⟨#[]⟩, .string ⟨#[]⟩, .slice none 0 0, .slice none 0 0] 102 (0, 0))); have z0 := cell_of z 0; have z1 := cell_of z 1; have z2 := cell_of z 2; have z3 := cell_of z 3; have z4 := cell_of z 4; have z5 := cell_of z 5; have zf := z0e z)); have HW2 : Hid (Below W.heap.size W w2) := hid (z0c (by (repeat (first | exact Below.refl _ _ | assumption | with_reducible refine Below.drew ?_ | with_reducible refine below_drewN ?_ | with_reducible refine Below.setCell ?_ (by first | (simp; done) | (simp; omega)) _ | with_reducible refine Below.alloc ?_ (by first | exact Nat.le_refl _ | (simp; done) | (simp; omega)) _))) hw2 (by first | exact Nat.le_refl _ | (simp; done) | (simp; omega))); clear hw2)
 all_goals first | (have hmid := nodeB (k := kr) (cd := ⟨#[]⟩) (vl := ⟨#[]⟩) (pt := ptr) (ya := ya) (za := za) (yn := Lr.length) (yc := yc) (zn := Lr.length) (zc := zc) HW2.out z; generalize hE : ((((((w2.setCell ⟨W.heap.size, 0, none⟩ (.int .i64 kr)).setCell ⟨W.heap.size, 1, none⟩ (.string ⟨#[]⟩)).setCell ⟨W.heap.size, 2, none⟩ (.string ⟨#[]⟩)).setCell ⟨W.heap.size, 3, none⟩ (.string ptr)).setCell ⟨W.heap.size, 4, none⟩ (.slice ya Lr.length yc)).setCell ⟨W.heap.size, 5, none⟩ (.slice za Lr.length zc)) = w3 at hmid ⊢; generalize hEu : W.heap.size = u at hmid ⊢) | (have hmid := nmidA (o := (.cells #[.int .i64 kr, .string ⟨#[]⟩, .string ⟨#[]⟩, .string ptr, .slice ya Lr.length yc, .slice za Lr.length zc] 102 (0, 0))) HW2.out; generalize hE : w2.alloc (.cells #[.int .i64 kr, .string ⟨#[]⟩, .string ⟨#[]⟩, .string ptr, .slice ya Lr.length yc, .slice za Lr.length zc] 102 (0, 0)) = w3 at hmid ⊢; generalize hEu : w2.heap.size = u at hmid ⊢)
 all_goals
  try clear z z0 z1 z2 z3 z4 z5 zf
  clear hE hEu HPN n0 n1 t0 HW2 l0 l1 HTW
  obtain ⟨hb3, hu, ho⟩ := hmid
  have HB3 := hid ((hlb ▸ HB1.out).trans (hb3.mono (hlb ▸ HB1.out.size)))
  have hs3 := HS1.out.keep hb3
  have R3 := hid ((hb3.block _ (lt_of_block R1.out)).trans R1.out)
  have B3 := hid ((hb3.block _ (lt_of_block B1.out)).trans B1.out)
  have s0 := cell_of hs3.h 0
  have s3 := cell_of hs3.h 3
  rw [HWH.out] at s0
  have HO3 := hid ho
  have HS3 := hid hs3
  have hul : lb <= u /\ rb < u /\ b < u /\ g < u /\ lb < u := by have := HB1.out.size; have := lt_of_block R1.out; have := HBG.out; have := HS1.out.glt; have := lt_of_block HS1.out.h; have := lt_of_block B1.out; omega
  have HUL2 := hid hul
  clear hs3 ho hb3 hul
  go_wp2_with fail
  have hgk : GKeeps (fun (_ : World) (v : Value) => v = .tuple #[.string (ptr.extract 0 s.at_), .int .u8 y.toNat, .string (ptr.extract (s.at_ + 1) ptr.size), .bool true]) u := fun _ _ _ h _ => h
  have HGK := hid hgk
  have HCU := hid (fun w => Go.Proofs.YtgdmfledhhoedaaGreatDoor.P.Cut_at (a := ptr) (n := s.at_) w y HY.out (by have := HNX.out.p; omega))
  clear hgk
  refine z0r 15 [] (fun _ => ([.pointer (some ⟨u, 3, none⟩), .string ptr, .pointer (some ⟨b, 0, none⟩), .pointer (some ⟨b, 0, none⟩), .pointer (some ⟨b, 2, none⟩), .int .i64 s.at_, .tuple #[.string (ptr.extract 0 s.at_), .int .u8 y.toNat, .string (ptr.extract (s.at_ + 1) ptr.size), .bool true], .tuple #[.string (ptr.extract 0 s.at_), .int .u8 y.toNat, .string (ptr.extract (s.at_ + 1) ptr.size), .bool true], .string (ptr.extract 0 s.at_), .int .u8 y.toNat, .string (ptr.extract (s.at_ + 1) ptr.size), .bool true, .int .u8 y.toNat, .pointer (some ⟨u, 3, none⟩), undef] : List Value)) (GJ 102 (fun (_ : World) (v : Value) => v = .tuple #[.string (ptr.extract 0 s.at_), .int .u8 y.toNat, .string (ptr.extract (s.at_ + 1) ptr.size), .bool true]) w3 u 6 14 [] [] [(6, 1), (10, 7), (7, 6)] (fun _ => undef) (fun _ x => x) #[.int .i64 kr, .string ⟨#[]⟩, .string ⟨#[]⟩, .string ptr, .slice ya Lr.length yc, .slice za Lr.length zc] (fun _ => #[.int .i64 kr, .string ⟨#[]⟩, .string ⟨#[]⟩, .string (ptr.extract (s.at_ + 1) ptr.size), .slice ya Lr.length yc, .slice za Lr.length zc])) ?h0 (fun _ _ _ => rfl) ?hs ?hend
  case h0 => exact GJ.start HO3.out
  case hs =>
   dsimp only [List.take, z1a, OpT, z1n]
   (repeat' refine And.intro ?_ ?_) <;> first | refine .inl ⟨rfl, ?_⟩ | refine .inr ⟨rfl, ?_⟩
   ·intro D xs w1 hDk hwt hJ
    skip
    have HJ := hid hJ
    clear hDk hwt hJ
    go_wp2_with fail
    refine ⟨by kernel_rfl, ?_⟩; (try intro _ _); exact GJ.calm HGK.out HJ.out (Below.refl _ _) (fun j' h => absurd h (by simp))
   ·intro D xs w1 hDk hwt hJ
    have h14 : D 14 = false := by
     cases e : D 14
     ·rfl
     ·have := hJ.p 6 1 (by decide) (hJ.s e)
      rw [this] at hDk
      cases hDk
    have hc := hJ.c
    rw [h14] at hc
    simp only [cond_false] at hc
    have q3 := cell_of hc 3
    have HJ := hid hJ
    clear hDk hwt hJ hc
    go_wp2_with fail
    refine ⟨by kernel_rfl, ?_⟩; (try intro _ _); exact GJ.calm HGK.out HJ.out (Below.refl _ _) (fun j' h => absurd h (by simp))
   iterate 4
    ·intro D xs w1 hDk hwt hJ
     have s2 := cell_of ((hJ.m.block b (lt_of_block HS3.out.h) (by have := HUL2.out; show ¬ b = u; omega)).trans HS3.out.h) 2
     have HJ := hid hJ
     clear hDk hwt hJ
     go_wp2_with fail
     refine ⟨by kernel_rfl, ?_⟩; (try intro _ _); exact GJ.calm HGK.out HJ.out (Below.refl _ _) (fun j' h => absurd h (by simp))
   ·intro D xs w1 hDk hwt hJ
    have hD : D 6 = false := hDk
    have h1 := hwt 1 (eM (by kernel_rfl))
    have HJ := hid hJ
    clear hDk hwt hJ
    go_wp2_with (go_at_call 71; refine (HCU.out _).mono ?_; rintro e w2 ⟨rfl, hb2⟩)
    exact ⟨by kernel_rfl, fun q hq => by obtain rfl := hq rfl; exact GJ.call HJ.out hD rfl hb2 (fun j' h => by simp at h; subst h; exact h1)⟩
   ·intro D xs w1 hDk hwt hJ
    skip
    have HJ := hid hJ
    have HWT := hid hwt
    clear hDk hwt hJ
    go_wp2_with fail
    refine ⟨by kernel_rfl, ?_⟩; (try intro _ _); exact GJ.calm HGK.out HJ.out (Below.refl _ _) (fun j' h => by simp at h; subst h; exact HWT.out 6 (eM (by kernel_rfl)))
   iterate 2
    ·intro D xs w1 hDk hwt hJ
     skip
     have HJ := hid hJ
     clear hDk hwt hJ
     go_wp2_with fail
     refine ⟨by kernel_rfl, ?_⟩; (try intro _ _); exact GJ.calm HGK.out HJ.out (Below.refl _ _) (fun j' h => absurd h (by simp))
   ·intro D xs w1 hDk hwt hJ
    skip
    have HJ := hid hJ
    have HWT := hid hwt
    clear hDk hwt hJ
    go_wp2_with fail
    refine ⟨by kernel_rfl, ?_⟩; (try intro _ _); exact GJ.calm HGK.out HJ.out (Below.refl _ _) (fun j' h => by simp at h; subst h; exact HWT.out 7 (eM (by kernel_rfl)))
   iterate 3
    ·intro D xs w1 hDk hwt hJ
     skip
     have HJ := hid hJ
     clear hDk hwt hJ
     go_wp2_with fail
     refine ⟨by kernel_rfl, ?_⟩; (try intro _ _); exact GJ.calm HGK.out HJ.out (Below.refl _ _) (fun j' h => absurd h (by simp))
   ·intro D xs w1 hDk hwt hJ
    have hD : D 14 = false := hDk
    have h6 : D 6 = true := by
     exact hJ.p 7 6 (by decide) (hJ.p 10 7 (by decide) (hwt 10 (eM (by kernel_rfl))))
    have hc := hJ.c
    rw [hD] at hc
    simp only [cond_false] at hc
    have q3 := cell_of hc 3
    have qf := z0e hc
    have HC := hid hc
    have HJ := hid hJ
    clear hDk hwt hJ hc
    go_wp2_with fail
    have m1 : (w1.setCell ⟨u, 3, none⟩ (.string (ptr.extract (s.at_ + 1) ptr.size))).heap[u]? = some (.cells #[.int .i64 kr, .string ⟨#[]⟩, .string ⟨#[]⟩, .string (ptr.extract (s.at_ + 1) ptr.size), .slice ya Lr.length yc, .slice za Lr.length zc] 102 (0, 0)) := z0w HC.out rfl
    have m2 : Mod (· = u) w1 (w1.setCell ⟨u, 3, none⟩ (.string (ptr.extract (s.at_ + 1) ptr.size))) := Mod.setCell (S := (· = u)) (p := ⟨u, 3, none⟩) (Mod.refl _ w1) (.inl rfl) _
    exact ⟨by kernel_rfl, fun q _ => GJ.store HGK.out HJ.out h6 m2 m1 (fun j' h => absurd h (by simp))⟩
  case hend =>
   intro D xs w8 hD hJ
   have hc := hJ.c
   rw [hD 14 (by omega)] at hc
   simp only [cond_true] at hc
   have hM := hJ.m
   have h2l := HUL2.out
   have hlt := HLT.out
   have HB3w : Hid (Below w.heap.size w w3) := HB3
   have hmx : ∀ k, k < lb -> ¬ k = u := fun k hk => by omega
   have hno : ∀ k, k = u -> NoRow w3 k := fun k e cs T fr hk => by
    subst e
    rw [HO3.out] at hk
    cases hk
    exact ⟨by decide, by decide⟩
   have HT8 := hid ((HH.out.keep HB3w.out).mod hM hno (hmx t (by omega)) (hmx sb (by omega)) (hmx sg (by omega)) (hmx kb (by omega)) (hmx km (by omega)))
   have hN3 := HNX.out.keep HB3w.out
   have HN8 : Hid (O.NodeIn w8 kr (ptr.extract (s.at_ + 1) ptr.size) ya Lr.length yc za Lr.length zc Lr) := hid ⟨O.z0g hN3.b hM (O.z1h hN3.b HO3.out (by decide)), O.z0g hN3.z hM (O.z1h hN3.z HO3.out (by decide)), hN3.k1, hN3.k2, (by have := hN3.p; simp; omega), hN3.len, hN3.rise, hN3.ok⟩
   have R8 := hid ((hM.block rb (lt_of_block R3.out) (show ¬ rb = u by omega)).trans R3.out)
   have L8 := hid ((hM.block lb (lt_of_block B3.out) (show ¬ lb = u by omega)).trans B3.out)
   have HS8 := hid (HS3.out.mod hM (show b ≠ u by omega) (show g ≠ u by omega))
   have U8 : Hid (w8.heap[u]? = some (.cells #[.int .i64 kr, .string ⟨#[]⟩, .string ⟨#[]⟩, .string (ptr.extract (s.at_ + 1) ptr.size), .slice ya Lr.length yc, .slice za Lr.length zc] 102 (0, 0))) := hid hc
   have hrb := HRB.out
   have HNS8 : Hid (¬ rb = sg /\ ¬ u = sg) := hid (by omega)
   have HM8 : Hid (Mod (TOwn sg km) w w8) := hid ((Mod.z0n (S := TOwn sg km) HB3w.out).trans hM (fun i hi e => by have e' : i = u := e; omega))
   have HQR := hid hqr
   dsimp only [List.take, z1n, List.drop]
   clear hD hJ hc hM h2l hlt hmx hno hN3 hrb hqr
   go_wp2_with fail
   refine z0f 6 (Turn 5 (KidJ w8 t sb sg kb km P L tk) (KidJ w8 t sb sg kb km (P.set ir ⟨true, ⟨.z0j kr (ptr.extract (s.at_ + 1) ptr.size) Lr, plr, dir⟩, r.2⟩) L tk)) (by kernel_rfl) (by kernel_rfl) (by kernel_rfl) (Turn.start ⟨(Mod.refl (· = sg) w8).drew, HT8.out.keep (Below.refl _ _).drew⟩) ?_
   dsimp only [List.take]
   iterate 5
    refine Seq.calm (a' := ?_) (by decide) ?_ ?_ ?_
    rotate_left
    ·intro w1 hw1
     have hM : Mod (· = sg) w8 w1 := hw1.elim KidJ.m KidJ.m; have n0 := cell_of ((hM.block rb (lt_of_block R8.out) HNS8.out.1).trans R8.out) 0; have n1 := cell_of ((hM.block rb (lt_of_block R8.out) HNS8.out.1).trans R8.out) 1; have ho := (hM.block u (lt_of_block U8.out) HNS8.out.2).trans U8.out; have o0 := cell_of ho 0; have o1 := cell_of ho 1; have o2 := cell_of ho 2; have o3 := cell_of ho 3; have o4 := cell_of ho 4; have o5 := cell_of ho 5; clear hM ho
     go_wp2_with (fail)
     refine ⟨?_, id, id⟩; exact rfl
    ·kernel_rfl
   refine Seq.turn (a' := ?_) ?_ ?_ ?_
   rotate_left
   ·intro w1 hw1
    have HM := hid hw1.m
    have HTT := hid hw1.t
    have HNW := hid (node_mod HN8.out hw1.m (fun k e => HT8.out.noRow k (.inl e)))
    clear hw1
    go_wp2_with (go_at_call 33; refine (set_inner w1 HTT.out HQR.out HNW.out HMB.out).mono ?_; rintro e w2 ⟨rfl, hT, hX⟩)
    refine ⟨?_, HM.out.trans hX (fun _ _ h => h), hT⟩
    exact rfl
   ·kernel_rfl
   iterate 0
    refine Seq.calm (a' := ?_) (by decide) ?_ ?_ ?_
    rotate_left
    ·intro w1 hw1
     have hM : Mod (· = sg) w8 w1 := hw1.elim KidJ.m KidJ.m; have n0 := cell_of ((hM.block rb (lt_of_block R8.out) HNS8.out.1).trans R8.out) 0; have n1 := cell_of ((hM.block rb (lt_of_block R8.out) HNS8.out.1).trans R8.out) 1; have ho := (hM.block u (lt_of_block U8.out) HNS8.out.2).trans U8.out; have o0 := cell_of ho 0; have o1 := cell_of ho 1; have o2 := cell_of ho 2; have o3 := cell_of ho 3; have o4 := cell_of ho 4; have o5 := cell_of ho 5; clear hM ho
     go_wp2_with (fail)
     refine ⟨?_, id, id⟩; exact rfl
    ·kernel_rfl
   refine SeqI.nil ?_
   intro D w1 hD hI
   replace hI := hI.done (hD 5 (by omega))
   clear hD
   dsimp only [List.drop]
   obtain ⟨W9, hW9⟩ : ∃ W9, W9 = w1 := ⟨_, rfl⟩
   subst hW9
   obtain ⟨hm9, l1, hT9, hR9⟩ := hI
   have R9 := hid ((hm9.block rb (lt_of_block R8.out) HNS8.out.1).trans R8.out)
   have L9 := hid ((hm9.block lb (lt_of_block L8.out) (show ¬ lb = sg by have := HRB.out; omega)).trans L8.out)
   have HNB := hid hnb
   have HS9 := hid (HS8.out.mod' hm9 (fun e => HNB.out.1 (.inl e)) (fun e => HNB.out.2 (.inl e)))
   have HM9 : Hid (Mod (TOwn sg km) w W9) := hid (HM8.out.trans hm9 (fun _ _ e => .inl e))
   have HT9 := hid hT9
   have HR9 := hid hR9
   have HRM9 := hid (z1s HRM.out HM9.out h0)
   have hlt := HLT.out
   have hl9 := HM9.out.size
   have HLT9 : Hid (t < W9.heap.size /\ sb < W9.heap.size /\ sg < W9.heap.size /\ kb < W9.heap.size /\ km < W9.heap.size) := hid (by omega)
   have HNB2 : Hid (¬ TOwn sg km rb /\ ¬ TOwn sg km lb) := hid (by have := HRB.out; refine ⟨?_, ?_⟩ <;> rintro (e | e) <;> omega)
   have hes : (c.extract s.depth c.size).size = c.size - s.depth := by simp
   have hxl : s.at_ < c.size - s.depth := by
    have := (List.getElem?_eq_some_iff.1 HX.out).1
    rw [z0z] at this
    rw [<- hes]
    exact this
   have hri : ∀ w, (Instr.index 9 (.string (c.extract s.depth c.size)) (.int .i64 s.at_)).run Tryz.prog w = .ok (.int .u8 (x.toNat : Int)) w := fun w => run_byte w _ (rst c s.depth) s.at_ x (by kernel_rfl) HX.out
   have HNF := hid (fun w1 => nfork_at ((c.extract s.depth c.size).extract 0 s.at_) ⟨y.toNat, r.1, r.2⟩ ⟨x.toNat, lf.1, lf.2⟩ w1 (by simp; omega) hkr hkl (fun e => hxy (UInt8.toNat_inj.1 (by have e' : (y.toNat : Int) = x.toNat := e; omega))))
   have HES := hid hes
   have HXL := hid hxl
   have HRI := hid hri
   obtain ⟨pr, hpr1, hpr2⟩ := HQR.out.noroom
   have HFJ : Hid (z2q (P.set ir ⟨true, ⟨.z0j kr (ptr.extract (s.at_ + 1) ptr.size) Lr, plr, dir⟩, r.2⟩) (j : Int)) := hid (hF.set hpr1 hpr2 rfl)
   have hj1 : (P.set ir ⟨true, ⟨.z0j kr (ptr.extract (s.at_ + 1) ptr.size) Lr, plr, dir⟩, r.2⟩)[j]? = some pj := by rw [List.getElem?_set_ne (fun e => hji e.symm)]; exact hj
   obtain ⟨cj, hcj, _, hcg, hcr⟩ := hR9.cell hj1
   have HCJ := hid (And.intro hcj (And.intro hcg (hcr.trans hjr)))
   have HRR := hid (And.intro hr1 hr2)
   have HU1 := hid (fun w1 (hs1 : SpotAt w1 b g wc s) => up_at (k := 1) hs1 (by omega) HUL.out)
   have H0 := hid h0
   have HQU := hid (hqu.z1f (c := ⟨true, ⟨.z0j kr (ptr.extract (s.at_ + 1) ptr.size) Lr, plr, dir⟩, r.2⟩) hru)
   have HJU := hid hju
   have HKJ := hid hkj
   have HKF := hid hkf
   have HKS := hid (And.intro hks hkg)
   have HKN := hid hkn
   have HKO := hid hok
   clear hm9 hT9 hR9 hcj hcg hcr hes hxl hri hlt hl9 hnb hF hj hj1 hpr1 hpr2 hjr hr1 hr2 hkj hkf hks hkg hkn hok hqu hju h0 hkr hkl hxy
   go_wp2_with fail
   have hok : RJOk (TOwn sg km) (fun w1 => TreeAt w1 t sb sg kb km l1 L tk) (fun w1 => ∃ gb gk, TreeAt w1 t sb sg kb km ((l1).set j ⟨true, (⟨2, ⟨#[]⟩, ⟨#[]⟩, ((c.extract s.depth c.size).extract 0 s.at_), ⟨some ⟨gb, 0, none⟩, 2, 2⟩, ⟨some ⟨gk, 0, none⟩, 2, 2⟩, false, false⟩ : Nd), pj.gen + 1⟩) (K.addL L rr).2 tk /\ O.NodeIn w1 2 ((c.extract s.depth c.size).extract 0 s.at_) (some ⟨gb, 0, none⟩) 2 2 (some ⟨gk, 0, none⟩) 2 2 (z1k ⟨y.toNat, r.1, r.2⟩ ⟨x.toNat, lf.1, lf.2⟩) /\ W9.heap.size <= gb /\ W9.heap.size <= gk) (fun w1 v => ∃ gb gk, v = .agg #[.int .i64 2, .string ⟨#[]⟩, .string ⟨#[]⟩, .string ((c.extract s.depth c.size).extract 0 s.at_), .slice (some ⟨gb, 0, none⟩) 2 2, .slice (some ⟨gk, 0, none⟩) 2 2] /\ O.NodeIn w1 2 ((c.extract s.depth c.size).extract 0 s.at_) (some ⟨gb, 0, none⟩) 2 2 (some ⟨gk, 0, none⟩) 2 2 (z1k ⟨y.toNat, r.1, r.2⟩ ⟨x.toNat, lf.1, lf.2⟩) /\ W9.heap.size <= gb /\ W9.heap.size <= gk) W9 36 #[.int .i64 0, .int .u32 0] := by
    have kn : ∀ w w' gb gk, O.NodeIn w 2 ((c.extract s.depth c.size).extract 0 s.at_) (some ⟨gb, 0, none⟩) 2 2 (some ⟨gk, 0, none⟩) 2 2 (z1k ⟨y.toNat, r.1, r.2⟩ ⟨x.toNat, lf.1, lf.2⟩) -> Below w.heap.size w w' -> O.NodeIn w' 2 ((c.extract s.depth c.size).extract 0 s.at_) (some ⟨gb, 0, none⟩) 2 2 (some ⟨gk, 0, none⟩) 2 2 (z1k ⟨y.toNat, r.1, r.2⟩ ⟨x.toNat, lf.1, lf.2⟩) := fun w w' gb gk h hb => h.keep hb
    have ko : ∀ w w' u gb gk, w.heap[u]? = some (.cells #[.int .i64 0, .int .u32 0] 36 (0, 0)) -> Mod (· = u) w w' -> O.NodeIn w 2 ((c.extract s.depth c.size).extract 0 s.at_) (some ⟨gb, 0, none⟩) 2 2 (some ⟨gk, 0, none⟩) 2 2 (z1k ⟨y.toNat, r.1, r.2⟩ ⟨x.toNat, lf.1, lf.2⟩) -> O.NodeIn w' 2 ((c.extract s.depth c.size).extract 0 s.at_) (some ⟨gb, 0, none⟩) 2 2 (some ⟨gk, 0, none⟩) 2 2 (z1k ⟨y.toNat, r.1, r.2⟩ ⟨x.toNat, lf.1, lf.2⟩) := fun w w' u gb gk hu hM h => by
     have h1 : gb ≠ u := O.z1h h.b hu (by decide) gb rfl
     obtain ⟨g', eg, _, hc⟩ := O.z0x h.z (by rw [forkK_len]; omega)
     have h2 : gk ≠ u := fun e => by
      have e2 : gk = g' := by injection eg with eg; injection eg
      have hl3 : 3 < (z2p (z1k ⟨y.toNat, r.1, r.2⟩ ⟨x.toNat, lf.1, lf.2⟩)).length := by rw [kidsL_len, forkK_len]; omega
      have := hc 3 _ (List.getElem?_eq_getElem hl3)
      rw [<- e2, e, cell_of hu 3] at this
      simp at this
     exact ⟨O.z0g h.b hM (fun k hk e => by simp only [Value.ownBlock, Option.some.injEq] at hk; have : k = u := e; omega), O.z0g h.z hM (fun k hk e => by simp only [Value.ownBlock, Option.some.injEq] at hk; have : k = u := e; omega), h.k1, h.k2, h.p, h.len, h.rise, h.ok⟩
    have kt : ∀ w w' gb gk, W9.heap.size <= gb -> W9.heap.size <= gk -> Mod (TOwn sg km) w w' -> O.NodeIn w 2 ((c.extract s.depth c.size).extract 0 s.at_) (some ⟨gb, 0, none⟩) 2 2 (some ⟨gk, 0, none⟩) 2 2 (z1k ⟨y.toNat, r.1, r.2⟩ ⟨x.toNat, lf.1, lf.2⟩) -> O.NodeIn w' 2 ((c.extract s.depth c.size).extract 0 s.at_) (some ⟨gb, 0, none⟩) 2 2 (some ⟨gk, 0, none⟩) 2 2 (z1k ⟨y.toNat, r.1, r.2⟩ ⟨x.toNat, lf.1, lf.2⟩) := fun w w' gb gk l1 l2 hM h => ⟨O.z0g h.b hM (fun k hk => by simp only [Value.ownBlock, Option.some.injEq] at hk; exact (fun {k : Nat} (hk : W9.heap.size <= k) => (show ¬ TOwn sg km k by have := HLT9.out; rintro (e | e) <;> omega)) (by omega)), O.z0g h.z hM (fun k hk => by simp only [Value.ownBlock, Option.some.injEq] at hk; exact (fun {k : Nat} (hk : W9.heap.size <= k) => (show ¬ TOwn sg km k by have := HLT9.out; rintro (e | e) <;> omega)) (by omega)), h.k1, h.k2, h.p, h.len, h.rise, h.ok⟩
    have hl := HLT9.out
    refine ⟨fun w w' h hb => h.keep hb, ?_, ?_, fun w w' u hu hc hM h => h.mod hM (show ¬ t = u by omega) (show ¬ sb = u by omega) (show ¬ sg = u by omega) (show ¬ kb = u by omega) (show ¬ km = u by omega), ?_, ?_, ?_, ?_⟩
    ·rintro w w' ⟨gb, gk, h1, h2, h3⟩ hb
     exact ⟨gb, gk, h1.keep hb, kn _ _ _ _ h2 hb, h3⟩
    ·rintro w w' v ⟨gb, gk, h1, h2, h3⟩ hb
     exact ⟨gb, gk, h1, kn _ _ _ _ h2 hb, h3⟩
    ·rintro w w' u hu hc hM ⟨gb, gk, h1, h2, h3⟩
     exact ⟨gb, gk, h1.mod hM (show ¬ t = u by omega) (show ¬ sb = u by omega) (show ¬ sg = u by omega) (show ¬ kb = u by omega) (show ¬ km = u by omega), ko _ _ _ _ _ hc hM h2, h3⟩
    ·rintro w w' u v hu hc hM ⟨gb, gk, h1, h2, h3⟩
     exact ⟨gb, gk, h1, ko _ _ _ _ _ hc hM h2, h3⟩
    ·rintro w w' v hM ⟨gb, gk, h1, h2, h3⟩
     exact ⟨gb, gk, h1, kt _ _ _ _ h3.1 h3.2 hM h2, h3⟩
    ·rintro k (e | e) <;> omega
   have HOK := hid hok
   clear hok
   refine z0r 26 [18, 23] (fun xs => [.pointer (some ⟨t, 0, none⟩), .pointer (some ⟨t, 0, none⟩), .pointer (some ⟨t, 0, none⟩), .string (c.extract s.depth c.size), .pointer (some ⟨b, 0, none⟩), .pointer (some ⟨b, 0, none⟩), .pointer (some ⟨b, 2, none⟩), .int .i64 s.at_, .string ((c.extract s.depth c.size).extract 0 s.at_), .int .u8 y.toNat, .agg #[.int .i64 r.1, .int .u32 r.2], .string (c.extract s.depth c.size), .pointer (some ⟨b, 0, none⟩), .pointer (some ⟨b, 0, none⟩), .pointer (some ⟨b, 2, none⟩), .int .i64 s.at_, .int .u8 x.toNat, .agg #[.int .i64 lf.1, .int .u32 lf.2], xs 18, .tuple #[.agg #[.int .i64 j, .int .u32 (pj.gen + 1)], .int .i64 0], .tuple #[.agg #[.int .i64 j, .int .u32 (pj.gen + 1)], .int .i64 0], .agg #[.int .i64 j, .int .u32 (pj.gen + 1)], .int .i64 0, xs 23, undef, .int .i64 0]) (RJ (TOwn sg km) (fun w1 => TreeAt w1 t sb sg kb km l1 L tk) (fun w1 => ∃ gb gk, TreeAt w1 t sb sg kb km ((l1).set j ⟨true, (⟨2, ⟨#[]⟩, ⟨#[]⟩, ((c.extract s.depth c.size).extract 0 s.at_), ⟨some ⟨gb, 0, none⟩, 2, 2⟩, ⟨some ⟨gk, 0, none⟩, 2, 2⟩, false, false⟩ : Nd), pj.gen + 1⟩) (K.addL L rr).2 tk /\ O.NodeIn w1 2 ((c.extract s.depth c.size).extract 0 s.at_) (some ⟨gb, 0, none⟩) 2 2 (some ⟨gk, 0, none⟩) 2 2 (z1k ⟨y.toNat, r.1, r.2⟩ ⟨x.toNat, lf.1, lf.2⟩) /\ W9.heap.size <= gb /\ W9.heap.size <= gk) (fun w1 v => ∃ gb gk, v = .agg #[.int .i64 2, .string ⟨#[]⟩, .string ⟨#[]⟩, .string ((c.extract s.depth c.size).extract 0 s.at_), .slice (some ⟨gb, 0, none⟩) 2 2, .slice (some ⟨gk, 0, none⟩) 2 2] /\ O.NodeIn w1 2 ((c.extract s.depth c.size).extract 0 s.at_) (some ⟨gb, 0, none⟩) 2 2 (some ⟨gk, 0, none⟩) 2 2 (z1k ⟨y.toNat, r.1, r.2⟩ ⟨x.toNat, lf.1, lf.2⟩) /\ W9.heap.size <= gb /\ W9.heap.size <= gk) W9 36 #[.int .i64 0, .int .u32 0] (fun _ => #[.int .i64 j, .int .u32 (pj.gen + 1)]) false 18 19 23 24 [] [] (fun _ => undef) (fun _ x => x)) ?h0 (fun xs ys h => by simp [h]) ?hs ?hend
   case h0 => exact RJ.start (HT9.out.keep (Below.refl _ _).drew)
   case hs =>
    dsimp only [List.take, z1a, OpT, z1n]
    (repeat' refine And.intro ?_ ?_) <;> first | refine .inl ⟨rfl, ?_⟩ | refine .inr ⟨rfl, ?_⟩
    iterate 18
     ·intro D xs w1 hDk hwt hJ
      have s2 := cell_of (HS9.out.mod' hJ.m HNB.out.1 HNB.out.2).h 2; have hR := (hJ.m.block rb (lt_of_block R9.out) HNB2.out.1).trans R9.out; have n0 := cell_of hR 0; have n1 := cell_of hR 1; have hL := (hJ.m.block lb (lt_of_block L9.out) HNB2.out.2).trans L9.out; have m0 := cell_of hL 0; have m1 := cell_of hL 1; have hxl := HXL.out; have hes := HES.out; have hri := HRI.out; clear hR hL
      have HJ := hid hJ
      clear hDk hwt hJ
      go_wp2_with fail
      exact ⟨by kernel_rfl, fun _ _ => RJ.calm HOK.out HJ.out (Below.refl _ _)⟩
    ·intro D xs w1 hDk hwt hJ
     have hD : D 18 = false := hDk
     have hsz := hJ.m.size
     have HJ := hid hJ
     clear hDk hwt hJ
     go_wp2_with (go_at_call 72; refine (HNF.out _).mono ?_; rintro e w2 ⟨gb, gk, rfl, hN2, hb2, hgb, hgk⟩)
     exact ⟨_, by kernel_rfl, fun q hq => by obtain rfl := hq rfl; exact RJ.call HOK.out HJ.out (.inr fun _ _ => rfl) hD ⟨gb, gk, rfl, hN2, by omega, by omega⟩ hb2⟩
    ·intro D xs w1 hDk hwt hJ
     have hD : D 19 = false := hDk
     obtain ⟨gb, gk, ea, hN, hgb, hgk⟩ := hJ.l (hwt 18 (eM (by kernel_rfl)))
     rw [ea]
     have hp := hJ.p
     rw [hD] at hp
     simp only [cond_false] at hp
     have htk := take_at 2 ⟨#[]⟩ ⟨#[]⟩ ((c.extract s.depth c.size).extract 0 s.at_) (some ⟨gb, 0, none⟩) (some ⟨gk, 0, none⟩) 2 2 2 2 false w1 hp (HR9.out.first HFJ.out) HCJ.out.1 HCJ.out.2.2 rr HRR.out.1 (by rw [HRR.out.2, HCJ.out.2.1])
     rw [HCJ.out.2.1] at htk
     have HTK := hid htk
     have HEA := hid ea
     have HN := hid hN
     clear hp htk ea hN
     have HJ := hid hJ
     clear hDk hwt hJ
     go_wp2_with (go_at_call 34; refine HTK.out.mono ?_; rintro e w2 ⟨rfl, hT2, hM2⟩)
     have hl9 := HLT9.out
     have hp1 : (fun w1 => ∃ gb gk, TreeAt w1 t sb sg kb km ((l1).set j ⟨true, (⟨2, ⟨#[]⟩, ⟨#[]⟩, ((c.extract s.depth c.size).extract 0 s.at_), ⟨some ⟨gb, 0, none⟩, 2, 2⟩, ⟨some ⟨gk, 0, none⟩, 2, 2⟩, false, false⟩ : Nd), pj.gen + 1⟩) (K.addL L rr).2 tk /\ O.NodeIn w1 2 ((c.extract s.depth c.size).extract 0 s.at_) (some ⟨gb, 0, none⟩) 2 2 (some ⟨gk, 0, none⟩) 2 2 (z1k ⟨y.toNat, r.1, r.2⟩ ⟨x.toNat, lf.1, lf.2⟩) /\ W9.heap.size <= gb /\ W9.heap.size <= gk) w2 := ⟨gb, gk, hT2, ⟨O.z0g HN.out.b hM2 (fun k hk => by simp only [Value.ownBlock, Option.some.injEq] at hk; exact (fun {k : Nat} (hk : W9.heap.size <= k) => (show ¬ TOwn sg km k by have := HLT9.out; rintro (e | e) <;> omega)) (by omega)), O.z0g HN.out.z hM2 (fun k hk => by simp only [Value.ownBlock, Option.some.injEq] at hk; exact (fun {k : Nat} (hk : W9.heap.size <= k) => (show ¬ TOwn sg km k by have := HLT9.out; rintro (e | e) <;> omega)) (by omega)), HN.out.k1, HN.out.k2, HN.out.p, HN.out.len, HN.out.rise, HN.out.ok⟩, hgb, hgk⟩
     exact ⟨by kernel_rfl, fun q hq => by obtain rfl := hq rfl; exact RJ.turn HOK.out HJ.out hp1 hM2⟩
    iterate 3
     ·intro D xs w1 hDk hwt hJ
      skip
      have HJ := hid hJ
      clear hDk hwt hJ
      go_wp2_with fail
      exact ⟨by kernel_rfl, fun _ _ => RJ.calm HOK.out HJ.out (Below.refl _ _)⟩
    ·intro D xs w1 hDk hwt hJ
     have hD : D 23 = false := hDk
     have HJ := hid hJ
     clear hDk hwt hJ
     go_wp2_with fail
     exact ⟨_, by kernel_rfl, fun q hq => by obtain rfl := hq rfl; exact RJ.alloc HOK.out HJ.out hD⟩
    ·intro D xs w1 hDk hwt hJ
     have hD : D 24 = false := hDk
     have hA := hwt 23 (eM (by kernel_rfl))
     obtain ⟨b0, hb0, eb0, hc0⟩ := hJ.a hA
     rw [eb0]
     have HEB := hid eb0
     clear eb0
     rw [hD] at hc0
     simp only [cond_false] at hc0
     have q0 := cell_of hc0 0
     have q1 := cell_of hc0 1
     have qf := z0e hc0
     have HC := hid hc0
     clear hc0
     have HJ := hid hJ
     clear hDk hwt hJ
     go_wp2_with fail
     obtain ⟨m1, m2⟩ := set2_mod (v := .int .i64 j) (v' := .int .u32 (pj.gen + 1)) HC.out
     exact ⟨by kernel_rfl, fun q _ => RJ.store HOK.out HJ.out hD (fun e => by cases e) hA HEB.out m2 m1⟩
    ·intro D xs w1 hDk hwt hJ
     skip
     have HJ := hid hJ
     clear hDk hwt hJ
     go_wp2_with fail
     exact ⟨by kernel_rfl, fun _ _ => RJ.calm HOK.out HJ.out (Below.refl _ _)⟩
   case hend =>
    intro D xs w10 hD hJ
    have hp := hJ.p
    rw [hD 19 (by omega)] at hp
    simp only [cond_true] at hp
    obtain ⟨gb, gk, hTA, hN, hgb, hgk⟩ := hp
    obtain ⟨u, hu, eu, hc⟩ := hJ.a (hD 23 (by omega))
    rw [hD 24 (by omega)] at hc
    simp only [cond_true] at hc
    have hM := hJ.m
    have HP10 : Hid (z1c w10 t sb sg kb km (((P.set ir ⟨true, ⟨.z0j kr (ptr.extract (s.at_ + 1) ptr.size) Lr, plr, dir⟩, r.2⟩)).set j ⟨true, ⟨.z0j 2 ((rst c s.depth).extract 0 s.at_) (z1k ⟨y.toNat, r.1, r.2⟩ ⟨x.toNat, lf.1, lf.2⟩), false, false⟩, pj.gen + 1⟩) (K.addL L rr).2 tk) := hid ⟨_, hTA, Rel.set (x := (⟨2, ⟨#[]⟩, ⟨#[]⟩, ((c.extract s.depth c.size).extract 0 s.at_), ⟨some ⟨gb, 0, none⟩, 2, 2⟩, ⟨some ⟨gk, 0, none⟩, 2, 2⟩, false, false⟩ : Nd)) (q := ⟨.z0j 2 ((rst c s.depth).extract 0 s.at_) (z1k ⟨y.toNat, r.1, r.2⟩ ⟨x.toNat, lf.1, lf.2⟩), false, false⟩) (HR9.out.mod hM HT9.out.noRow) true (fun _ => ⟨rfl, rfl, rfl, rfl, rfl, rfl, hN, forkK_may _ _ _⟩)⟩
    have HS10 := hid (HS9.out.mod' hM HNB.out.1 HNB.out.2)
    have R10 := hid ((hM.block rb (lt_of_block R9.out) HNB2.out.1).trans R9.out)
    have U10 : Hid (w10.heap[u]? = some (.cells #[.int .i64 j, .int .u32 (pj.gen + 1)] 36 (0, 0))) := hid hc
    have HRM10 := hid (z1s HRM9.out hM H0.out)
    have HM10 := hid (HM9.out.trans hM (fun _ _ h => h))
    have hlt9 := HLT9.out
    have HNS : Hid (¬ rb = sg /\ ¬ u = sg /\ ¬ b = sg /\ ¬ g = sg) := hid ⟨fun e => HNB2.out.1 (.inl e), by omega, fun e => HNB.out.1 (.inl e), fun e => HNB.out.2 (.inl e)⟩
    have HLU : Hid (z0k (((P.set ir ⟨true, ⟨.z0j kr (ptr.extract (s.at_ + 1) ptr.size) Lr, plr, dir⟩, r.2⟩)).set j ⟨true, ⟨.z0j 2 ((rst c s.depth).extract 0 s.at_) (z1k ⟨y.toNat, r.1, r.2⟩ ⟨x.toNat, lf.1, lf.2⟩), false, false⟩, pj.gen + 1⟩) u0.1 u0.2 iu ⟨.z0j k pt Lk, pl, di⟩) := hid (by obtain ⟨e, p, h1, h2⟩ := HQU.out; exact ⟨e, p, by rw [List.getElem?_set_ne HJU.out]; exact h1, h2⟩)
    dsimp only [List.take, z1n, List.drop]
    rw [eu]
    clear hD hJ hTA hN hgb hgk hu eu hc hM hlt9 HOK
    go_wp2_with fail
    refine z0f 8 (Turn 7 (KidJ w10 t sb sg kb km (((P.set ir ⟨true, ⟨.z0j kr (ptr.extract (s.at_ + 1) ptr.size) Lr, plr, dir⟩, r.2⟩)).set j ⟨true, ⟨.z0j 2 ((rst c s.depth).extract 0 s.at_) (z1k ⟨y.toNat, r.1, r.2⟩ ⟨x.toNat, lf.1, lf.2⟩), false, false⟩, pj.gen + 1⟩) (K.addL L rr).2 tk) (KidJ w10 t sb sg kb km (((((P.set ir ⟨true, ⟨.z0j kr (ptr.extract (s.at_ + 1) ptr.size) Lr, plr, dir⟩, r.2⟩)).set j ⟨true, ⟨.z0j 2 ((rst c s.depth).extract 0 s.at_) (z1k ⟨y.toNat, r.1, r.2⟩ ⟨x.toNat, lf.1, lf.2⟩), false, false⟩, pj.gen + 1⟩)).set iu ⟨true, ⟨.z0j k pt (z1o Lk kk.b j (pj.gen + 1)), pl, di⟩, u0.2⟩) (K.addL L rr).2 tk)) (by kernel_rfl) (by kernel_rfl) (by kernel_rfl) (Turn.start ⟨(Mod.refl (· = sg) w10).drew, HP10.out.keep (Below.refl _ _).drew⟩) ?_
    dsimp only [List.take]
    iterate 7
     refine Seq.calm (a' := ?_) (by decide) ?_ ?_ ?_
     rotate_left
     ·intro w1 hw1
      have hM : Mod (· = sg) w10 w1 := hw1.elim KidJ.m KidJ.m; have n0 := cell_of ((hM.block rb (lt_of_block R10.out) HNS.out.1).trans R10.out) 0; have n1 := cell_of ((hM.block rb (lt_of_block R10.out) HNS.out.1).trans R10.out) 1; have m0 := cell_of ((hM.block u (lt_of_block U10.out) HNS.out.2.1).trans U10.out) 0; have m1 := cell_of ((hM.block u (lt_of_block U10.out) HNS.out.2.1).trans U10.out) 1; have HUX := hid (HU1.out w1 (HS10.out.mod' hM HNS.out.2.2.1 HNS.out.2.2.2)); clear hM
      go_wp2_with (go_at_call 31; refine HUX.out.mono ?_; rintro e w' ⟨rfl, hb⟩)
      first | (refine ⟨?_, id, id⟩; exact rfl) | (refine ⟨?_, (fun h => KidJ.keep h hb), (fun h => KidJ.keep h hb)⟩; exact rfl)
     ·kernel_rfl
    refine Seq.turn (a' := ?_) ?_ ?_ ?_
    rotate_left
    ·intro w1 hw1
     have HM := hid hw1.m
     have HTT := hid hw1.t
     have HRMX := hid (z1s HRM10.out hw1.m (fun e => H0.out (.inl e)))
     clear hw1
     go_wp2_with (go_at_call 38; refine (kid_P u0.1 u0.2 r.1 r.2 j (pj.gen + 1) w1 HTT.out HRMX.out HLU.out HKJ.out HKF.out HKS.out.1 HKS.out.2 HKN.out HKO.out).mono ?_; rintro e w2 ⟨rfl, hT, hX⟩)
     refine ⟨?_, HM.out.trans hX (fun _ _ h => h), hT⟩
     exact rfl
    ·kernel_rfl
    iterate 0
     refine Seq.calm (a' := ?_) (by decide) ?_ ?_ ?_
     rotate_left
     ·intro w1 hw1
      have hM : Mod (· = sg) w10 w1 := hw1.elim KidJ.m KidJ.m; have n0 := cell_of ((hM.block rb (lt_of_block R10.out) HNS.out.1).trans R10.out) 0; have n1 := cell_of ((hM.block rb (lt_of_block R10.out) HNS.out.1).trans R10.out) 1; have m0 := cell_of ((hM.block u (lt_of_block U10.out) HNS.out.2.1).trans U10.out) 0; have m1 := cell_of ((hM.block u (lt_of_block U10.out) HNS.out.2.1).trans U10.out) 1; have HUX := hid (HU1.out w1 (HS10.out.mod' hM HNS.out.2.2.1 HNS.out.2.2.2)); clear hM
      go_wp2_with (go_at_call 31; refine HUX.out.mono ?_; rintro e w' ⟨rfl, hb⟩)
      first | (refine ⟨?_, id, id⟩; exact rfl) | (refine ⟨?_, (fun h => KidJ.keep h hb), (fun h => KidJ.keep h hb)⟩; exact rfl)
     ·kernel_rfl
    refine SeqI.nil ?_
    intro D w1 hD hI
    replace hI := hI.done (hD 7 (by omega))
    clear hD
    dsimp only [List.drop]
    have HI := hid hI
    clear hI
    go_wp2_with fail
    go_end0
    exact ⟨rfl, HI.out.t, HM10.out.trans HI.out.m (fun _ _ h => .inl h)⟩
end Go.Proofs.YtgdmfledhhoedaaGreatDoor.T
