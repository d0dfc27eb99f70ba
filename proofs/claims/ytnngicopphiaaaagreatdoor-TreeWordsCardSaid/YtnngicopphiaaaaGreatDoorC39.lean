/- Part 39 of 51 of a proof: lemmas on the functions that it reaches. -/
import Derived.Test.YtnngicopphiaaaaGreatDoorC37
import Derived.Test.YtnngicopphiaaaaGreatDoorC38
namespace Go.Proofs.YtnngicopphiaaaaGreatDoor.T
set_option maxRecDepth 8000
open Go.ChangeShapes Go.WideShapes Go.ChangeAt Go.RowKit Go.Burg
open Go.Burg.Lk
theorem forkK_len (x y : Kd) : (forkK x y).length = 2 := by unfold forkK; split <;> rfl
theorem forkK_may (x y : Kd) (p : ByteArray) : O.MayB 2 (forkK x y).length p := by rw [forkK_len]; exact .inl (by decide)
theorem set2_mod {T : TypeId} {w : World} {c : Nat} {a b v v' : Value} (h : w.heap[c]? = some (.cells #[a, b] T (0, 0))) :
    ((w.setCell ⟨c, 0, none⟩ v).setCell ⟨c, 1, none⟩ v').heap[c]? = some (.cells #[v, v'] T (0, 0)) ∧ Mod (· = c) w ((w.setCell ⟨c, 0, none⟩ v).setCell ⟨c, 1, none⟩ v') :=
  ⟨O.set2_at h, Mod.setCell (S := (· = c)) (p := ⟨c, 1, none⟩) (Mod.setCell (S := (· = c)) (p := ⟨c, 0, none⟩) (Mod.refl _ w) (.inl rfl) v) (.inl rfl) v'⟩
structure KidJ (w0 : World) (t sb sg kb km : Nat) (P : List (Cel PNd)) (L : List (RefK × Wd)) (tk : Int) (w : World) : Prop where
  m : Mod (· = sg) w0 w
  t : TreeP w t sb sg kb km P L tk
theorem KidJ.keep {w0 w w' : World} {t sb sg kb km : Nat} {P : List (Cel PNd)} {L : List (RefK × Wd)} {tk : Int} (h : KidJ w0 t sb sg kb km P L tk w) (hb : Below w.heap.size w w') : KidJ w0 t sb sg kb km P L tk w' :=
  ⟨h.m.trans (mod_below hb) (fun _ _ e => e), h.t.keep hb⟩
set_option maxRecDepth 20000 in
set_option maxHeartbeats 8000000 in
theorem tfork_leaf {t sb sg kb km ir iu j jj k b g wc : Nat} {P : List (Cel PNd)} {L : List (RefK × Wd)} {tk : Int} {c cd vl pt : ByteArray} {s : SpotP} {r u0 lf : Int × Int} {Lk : List Kd} {pl di plr dir : Bool} {pj : Cel PNd} {kk : Kd} {x y : UInt8} (w : World) (h : TreeP w t sb sg kb km P L tk) (hr : RoomsAt w) (h0 : ¬ TOwn sg km 0)
    (hs : SpotAt w b g wc s) (hw : s.what = 4) (hnb : ¬ TOwn sg km b ∧ ¬ TOwn sg km g) (hc : c.size ≤ 1000) (hrl : s.way[s.way.length - 1]? = some r) (h2 : 2 ≤ s.way.length) (hul : s.way[s.way.length - 1 - 1]? = some u0) (hqr : LiveP P r.1 r.2 ir ⟨.leaf cd vl, plr, dir⟩) (hqu : LiveP P u0.1 u0.2 iu ⟨.inner k pt Lk, pl, di⟩)
    (hF : First P (j : Int)) (hj : P[j]? = some pj) (hjr : pj.room = true) (hju : j ≠ iu) (rr : RefK) (hr1 : rr.1.1 = j) (hr2 : rr.1.2 = pj.gen + 1) (hd : s.depth ≤ c.size) (hx : (byt (rst c s.depth))[s.at_]? = some x) (hy : (byt cd)[s.depth + s.at_]? = some y) (hcd : cd.size ≤ 1000) (hxy : x ≠ y) (hat : s.at_ ≤ 34)
    (hkr : (⟨y.toNat, r.1, r.2⟩ : Kd).ok) (hkl : (⟨x.toNat, lf.1, lf.2⟩ : Kd).ok) (hkj : Lk[jj]? = some kk) (hkf : findK Lk kk.b = some kk) (hks : kk.s = r.1) (hkg : kk.g = r.2) (hkn : ∀ i k, i < jj → Lk[i]? = some k → ¬ (k.s = r.1 ∧ k.g = r.2)) (hok : (⟨kk.b, j, pj.gen + 1⟩ : Kd).ok) :
    Calls Tryz.prog 40 #[.pointer (some ⟨t, 0, none⟩), .pointer (some ⟨b, 0, none⟩), .string c, .agg #[.int .i64 lf.1, .int .u32 lf.2]] w fun e w' => e = .returned (.tuple #[]) ∧
      TreeP w' t sb sg kb km ((P.set j ⟨true, ⟨.inner 2 ((rst c s.depth).extract 0 s.at_) (forkK ⟨y.toNat, r.1, r.2⟩ ⟨x.toNat, lf.1, lf.2⟩), false, false⟩, pj.gen + 1⟩).set iu ⟨true, ⟨.inner k pt (turnK Lk kk.b j (pj.gen + 1)), pl, di⟩, u0.2⟩) (K.addL L rr).2 tk ∧ Mod (TOwn sg km) w w' := by
  have b0 := heap_new w (.cells #[.int .i64 lf.1, .int .u32 lf.2] 30 (0, 0))
  have hB : Below w.heap.size w (w.alloc (.cells #[.int .i64 lf.1, .int .u32 lf.2] 30 (0, 0))) := (Below.refl _ _).alloc (Nat.le_refl _) _
  have HUP := hid (up_at (k := 0) (hs.keep hB) (by omega) (by simpa using hrl))
  have HH := hid h
  obtain ⟨l, hTA, hRE, hLx⟩ := h.leaf hqr
  have HTA := hid hTA
  have HRE := hid hRE
  have HRM := hid hr
  have HSP := hid (hs.keep hB)
  have HLT := hid h.lt
  have hbg : b < w.heap.size ∧ g < w.heap.size := ⟨lt_of_block hs.h, hs.glt⟩
  have HBG := hid hbg
  have HUL := hid hul
  have HX := hid hx
  have HY := hid hy
  have HWH := hid hw
  clear h hr hs hbg hul hrl hx hy hw hTA hRE
  go_enter Tryz.func40, Tryz.ntmps40
  go_wp2_with (go_at_call 37; refine HUP.out.mono ?_; rintro e w1 ⟨rfl, hb1⟩; go_loud (have r1 := heap_new w1 (.cells #[.int .i64 r.1, .int .u32 r.2] 30 (0, 0)); have hbr : Below w1.heap.size w1 (w1.alloc (.cells #[.int .i64 r.1, .int .u32 r.2] 30 (0, 0))) := (Below.refl _ _).alloc (Nat.le_refl _) _; have hb := hb1.trans (hbr.mono hb1.size); have HS1 := hid (HSP.out.keep hb); have HB1 := hid (hB.trans (hb.mono hB.size)); have R1 := hid r1; have hlb1 : w.heap.size ≤ w1.heap.size := (by have := hb1.size; simp at this; omega); have B1 := hid ((hb.block _ (lt_of_block b0)).trans b0); clear hb1 r1 hbr hb))
  generalize hWX : w1.alloc (.cells #[.int .i64 r.1, .int .u32 r.2] 30 (0, 0)) = W at *
  have HRB : Hid (t < w1.heap.size ∧ sg < w1.heap.size ∧ km < w1.heap.size ∧ sg < w.heap.size ∧ km < w.heap.size) := hid (by have := HLT.out; have := HB1.out.size; have hs9 := lt_of_block R1.out; have hz : w.heap.size ≤ w1.heap.size := hlb1; omega)
  generalize w1.heap.size = rb at *
  generalize hlb : w.heap.size = lb at *
  clear hWX HUP HSP b0
  have hTA := HTA.out.keep (hlb ▸ HB1.out)
  have HTW := hid hTA
  have HPN : Hid (∀ w1, Below W.heap.size W w1 → Calls Tryz.prog 38 #[.pointer (some ⟨t, 0, none⟩), .agg #[.int .i64 r.1, .int .u32 r.2]] w1 fun e w' => e = .returned (.agg #[.int .i64 1, .string cd, .string vl, .string ⟨#[]⟩, .slice none 0 0, .slice none 0 0]) ∧ Below w1.heap.size w1 w') := hid (fun w1 hw1 => node_at r.1 r.2 w1 (HTW.out.keep hw1) hLx)
  have n0 := cell_of R1.out 0
  have n1 := cell_of R1.out 1
  have t0 := cell_of hTA.ht 0
  have l0 := lt_of_block R1.out
  have l1 := lt_of_block hTA.ht
  clear hTA hLx
  go_region_with (go_at_call 38; refine (HPN.out _ (by (repeat (first | exact Below.refl _ _ | assumption | with_reducible refine Below.drew ?_ | with_reducible refine below_drewN ?_ | with_reducible refine Below.setCell ?_ (by first | (simp; done) | (simp; omega)) _ | with_reducible refine Below.alloc ?_ (by first | exact Nat.le_refl _ | (simp; done) | (simp; omega)) _)))).mono ?_; rintro e w2 ⟨rfl, hw2⟩; (try (have z := (hw2.block W.heap.size (by simp)).trans (heap_new W (.cells #[.int .i64 0, .string ⟨#[]⟩, .string ⟨#[]⟩, .string ⟨#[]⟩, .slice none 0 0, .slice none 0 0] 53 (0, 0))); have z0 := cell_of z 0; have z1 := cell_of z 1; have z2 := cell_of z 2; have z3 := cell_of z 3; have z4 := cell_of z 4; have z5 := cell_of z 5; have zf := free_of z)); have HW2 : Hid (Below W.heap.size W w2) := hid (below_chain (by (repeat (first | exact Below.refl _ _ | assumption | with_reducible refine Below.drew ?_ | with_reducible refine below_drewN ?_ | with_reducible refine Below.setCell ?_ (by first | (simp; done) | (simp; omega)) _ | with_reducible refine Below.alloc ?_ (by first | exact Nat.le_refl _ | (simp; done) | (simp; omega)) _))) hw2 (by first | exact Nat.le_refl _ | (simp; done) | (simp; omega))); clear hw2)
  all_goals first | (have hmid := nodeB (k := 1) (cd := cd) (vl := vl) (pt := ⟨#[]⟩) (ya := none) (za := none) (yn := 0) (yc := 0) (zn := 0) (zc := 0) HW2.out z; generalize hE : ((((((w2.setCell ⟨W.heap.size, 0, none⟩ (.int .i64 1)).setCell ⟨W.heap.size, 1, none⟩ (.string cd)).setCell ⟨W.heap.size, 2, none⟩ (.string vl)).setCell ⟨W.heap.size, 3, none⟩ (.string ⟨#[]⟩)).setCell ⟨W.heap.size, 4, none⟩ (.slice none 0 0)).setCell ⟨W.heap.size, 5, none⟩ (.slice none 0 0)) = w3 at hmid ⊢; generalize hEu : W.heap.size = u at hmid ⊢) | (have hmid := nmidA (o := (.cells #[.int .i64 1, .string cd, .string vl, .string ⟨#[]⟩, .slice none 0 0, .slice none 0 0] 53 (0, 0))) HW2.out; generalize hE : w2.alloc (.cells #[.int .i64 1, .string cd, .string vl, .string ⟨#[]⟩, .slice none 0 0, .slice none 0 0] 53 (0, 0)) = w3 at hmid ⊢; generalize hEu : w2.heap.size = u at hmid ⊢)
  all_goals
    try clear z z0 z1 z2 z3 z4 z5 zf
    clear hE hEu HPN n0 n1 t0 HW2 l0 l1 HTW
    obtain ⟨hb3, hu, ho⟩ := hmid
    have HB3 := hid ((hlb ▸ HB1.out).trans (hb3.mono (hlb ▸ HB1.out.size)))
    have hs3 := HS1.out.keep hb3
    have R3 := hid ((hb3.block _ (lt_of_block R1.out)).trans R1.out)
    have B3 := hid ((hb3.block _ (lt_of_block B1.out)).trans B1.out)
    have s0 := cell_of hs3.h 0
    have s2 := cell_of hs3.h 2
    have s3 := cell_of hs3.h 3
    rw [HWH.out] at s0
    have o1 := cell_of ho 1
    have HO3 := hid ho
    have HS3 := hid hs3
    have hul : w.heap.size ≤ u := by have := HB1.out.size; omega
    have hrx := fun w => run_byte (P := Tryz.prog) w 9 cd (s.depth + s.at_) y (by kernel_rfl) HY.out
    clear hs3 ho hb3
    have hsum : s.depth + s.at_ < cd.size := by
      have := (List.getElem?_eq_some_iff.1 HY.out).1
      rwa [byt_len] at this
    have hrx' : ∀ w, (Instr.index 9 (.string cd) (.int .i64 ((s.depth : Int) + (s.at_ : Int)))).run Tryz.prog w = .ok (.int .u8 (y.toNat : Int)) w := hrx
    have HRX := hid hrx'
    clear hrx hrx'
    go_wp2_with fail
    refine wp_region_seq 13 (fun w1 => Below (w3).heap.size (w3) w1) (by kernel_rfl) (by kernel_rfl) (by kernel_rfl) ⟨rfl, rfl, rfl, Nat.le_refl _, fun _ _ => rfl⟩ ?_
    dsimp only [List.take]
    iterate 13
      refine Seq.cons (a' := ?_) ?_ ?_ ?_
      rotate_left
      ·
        intro w1 hw1
        have o1 := cell_of (blk_below HO3.out hw1 (lt_of_block HO3.out)) 1
        have s2 := cell_of (blk_below HS3.out.h hw1 (lt_of_block HS3.out.h)) 2
        have s3 := cell_of (blk_below HS3.out.h hw1 (lt_of_block HS3.out.h)) 3
        have hrx := HRX.out
        go_wp2_with (fail)
        refine ⟨?_, by first | assumption | (simpa using below_chain hw1 hb hw1.size)⟩
        exact rfl
      · kernel_rfl
    refine SeqI.nil ?_
    intro _ w1 _ hw1
    dsimp only [List.drop]
    obtain ⟨W9, hW9⟩ : ∃ W9, W9 = w1 := ⟨_, rfl⟩
    subst hW9
    have hb9 := HB3.out.trans (hw1.mono HB3.out.size)
    have HB9 := hid hb9
    have R9 := hid (blk_below R3.out hw1 (lt_of_block R3.out))
    have L9 := hid (blk_below B3.out hw1 (lt_of_block B3.out))
    have HS9 := hid (HS3.out.keep hw1)
    have HT9 := hid (HTA.out.keep hb9)
    have HR9 := hid (HRE.out.keep hb9)
    have HRM9 := hid (HRM.out.keep hb9)
    have HM9 : Hid (Mod (TOwn sg km) w W9) := hid (Mod.ofBelow hb9)
    have hlt := HLT.out
    have hl9 := hb9.size
    have HLT9 : Hid (t < W9.heap.size ∧ sb < W9.heap.size ∧ sg < W9.heap.size ∧ kb < W9.heap.size ∧ km < W9.heap.size) := hid (by omega)
    have HNB := hid hnb
    have HNB2 : Hid (¬ TOwn sg km rb ∧ ¬ TOwn sg km lb) := hid (by have := HRB.out; refine ⟨?_, ?_⟩ <;> rintro (e | e) <;> omega)
    have hes : (c.extract s.depth c.size).size = c.size - s.depth := by simp
    have hxl : s.at_ < c.size - s.depth := by
      have := (List.getElem?_eq_some_iff.1 HX.out).1
      rw [byt_len] at this
      rw [← hes]
      exact this
    have hri : ∀ w, (Instr.index 9 (.string (c.extract s.depth c.size)) (.int .i64 s.at_)).run Tryz.prog w = .ok (.int .u8 (x.toNat : Int)) w := fun w => run_byte w _ (rst c s.depth) s.at_ x (by kernel_rfl) HX.out
    have HNF := hid (fun w1 => nfork_at ((c.extract s.depth c.size).extract 0 s.at_) ⟨y.toNat, r.1, r.2⟩ ⟨x.toNat, lf.1, lf.2⟩ w1 (by simp; omega) hkr hkl (fun e => hxy (UInt8.toNat_inj.1 (by have e' : (y.toNat : Int) = x.toNat := e; omega))))
    have HES := hid hes
    have HXL := hid hxl
    have HRI := hid hri
    have HFJ := hid hF
    obtain ⟨cj, hcj, _, hcg, hcr⟩ := HRE.out.cell hj
    have HCJ := hid (And.intro hcj (And.intro hcg (hcr.trans hjr)))
    have HRR := hid (And.intro hr1 hr2)
    have HU1 := hid (fun w1 (hs1 : SpotAt w1 b g wc s) => up_at (k := 1) hs1 (by omega) HUL.out)
    have H0 := hid h0
    have HQU := hid hqu
    have HJU := hid hju
    have HKJ := hid hkj
    have HKF := hid hkf
    have HKS := hid (And.intro hks hkg)
    have HKN := hid hkn
    have HKO := hid hok
    clear hw1 hb9 HB3 HS3 R3 B3 HRX HO3 HTA hcj hcg hcr hes hxl hri hlt hl9 HRE HRM hnb hF hj hjr hr1 hr2 hkj hkf hks hkg hkn hok hqu hju h0 hkr hkl hxy hqr
    go_wp2_with fail
    have hok : RJOk (TOwn sg km) (fun w1 => TreeAt w1 t sb sg kb km l L tk) (fun w1 => ∃ gb gk, TreeAt w1 t sb sg kb km ((l).set j ⟨true, (⟨2, ⟨#[]⟩, ⟨#[]⟩, ((c.extract s.depth c.size).extract 0 s.at_), ⟨some ⟨gb, 0, none⟩, 2, 2⟩, ⟨some ⟨gk, 0, none⟩, 2, 2⟩, false, false⟩ : Nd), pj.gen + 1⟩) (K.addL L rr).2 tk ∧ O.NodeIn w1 2 ((c.extract s.depth c.size).extract 0 s.at_) (some ⟨gb, 0, none⟩) 2 2 (some ⟨gk, 0, none⟩) 2 2 (forkK ⟨y.toNat, r.1, r.2⟩ ⟨x.toNat, lf.1, lf.2⟩) ∧ W9.heap.size ≤ gb ∧ W9.heap.size ≤ gk) (fun w1 v => ∃ gb gk, v = .agg #[.int .i64 2, .string ⟨#[]⟩, .string ⟨#[]⟩, .string ((c.extract s.depth c.size).extract 0 s.at_), .slice (some ⟨gb, 0, none⟩) 2 2, .slice (some ⟨gk, 0, none⟩) 2 2] ∧ O.NodeIn w1 2 ((c.extract s.depth c.size).extract 0 s.at_) (some ⟨gb, 0, none⟩) 2 2 (some ⟨gk, 0, none⟩) 2 2 (forkK ⟨y.toNat, r.1, r.2⟩ ⟨x.toNat, lf.1, lf.2⟩) ∧ W9.heap.size ≤ gb ∧ W9.heap.size ≤ gk) W9 30 #[.int .i64 0, .int .u32 0] := by
      have kn : ∀ w w' gb gk, O.NodeIn w 2 ((c.extract s.depth c.size).extract 0 s.at_) (some ⟨gb, 0, none⟩) 2 2 (some ⟨gk, 0, none⟩) 2 2 (forkK ⟨y.toNat, r.1, r.2⟩ ⟨x.toNat, lf.1, lf.2⟩) → Below w.heap.size w w' → O.NodeIn w' 2 ((c.extract s.depth c.size).extract 0 s.at_) (some ⟨gb, 0, none⟩) 2 2 (some ⟨gk, 0, none⟩) 2 2 (forkK ⟨y.toNat, r.1, r.2⟩ ⟨x.toNat, lf.1, lf.2⟩) := fun w w' gb gk h hb => h.keep hb
      have ko : ∀ w w' u gb gk, w.heap[u]? = some (.cells #[.int .i64 0, .int .u32 0] 30 (0, 0)) → Mod (· = u) w w' → O.NodeIn w 2 ((c.extract s.depth c.size).extract 0 s.at_) (some ⟨gb, 0, none⟩) 2 2 (some ⟨gk, 0, none⟩) 2 2 (forkK ⟨y.toNat, r.1, r.2⟩ ⟨x.toNat, lf.1, lf.2⟩) → O.NodeIn w' 2 ((c.extract s.depth c.size).extract 0 s.at_) (some ⟨gb, 0, none⟩) 2 2 (some ⟨gk, 0, none⟩) 2 2 (forkK ⟨y.toNat, r.1, r.2⟩ ⟨x.toNat, lf.1, lf.2⟩) := fun w w' u gb gk hu hM h => by
        have h1 : gb ≠ u := O.own_off h.b hu (by decide) gb rfl
        obtain ⟨g', eg, _, hc⟩ := O.own_cells h.z (by rw [forkK_len]; omega)
        have h2 : gk ≠ u := fun e => by
          have e2 : gk = g' := by injection eg with eg; injection eg
          have hl3 : 3 < (kidsL (forkK ⟨y.toNat, r.1, r.2⟩ ⟨x.toNat, lf.1, lf.2⟩)).length := by rw [kidsL_len, forkK_len]; omega
          have := hc 3 _ (List.getElem?_eq_getElem hl3)
          rw [← e2, e, cell_of hu 3] at this
          simp at this
        exact ⟨O.own_mod h.b hM (fun k hk e => by simp only [Value.ownBlock, Option.some.injEq] at hk; have : k = u := e; omega), O.own_mod h.z hM (fun k hk e => by simp only [Value.ownBlock, Option.some.injEq] at hk; have : k = u := e; omega), h.k1, h.k2, h.p, h.len, h.rise, h.ok⟩
      have kt : ∀ w w' gb gk, W9.heap.size ≤ gb → W9.heap.size ≤ gk → Mod (TOwn sg km) w w' → O.NodeIn w 2 ((c.extract s.depth c.size).extract 0 s.at_) (some ⟨gb, 0, none⟩) 2 2 (some ⟨gk, 0, none⟩) 2 2 (forkK ⟨y.toNat, r.1, r.2⟩ ⟨x.toNat, lf.1, lf.2⟩) → O.NodeIn w' 2 ((c.extract s.depth c.size).extract 0 s.at_) (some ⟨gb, 0, none⟩) 2 2 (some ⟨gk, 0, none⟩) 2 2 (forkK ⟨y.toNat, r.1, r.2⟩ ⟨x.toNat, lf.1, lf.2⟩) := fun w w' gb gk l1 l2 hM h => ⟨O.own_mod h.b hM (fun k hk => by simp only [Value.ownBlock, Option.some.injEq] at hk; exact (fun {k : Nat} (hk : W9.heap.size ≤ k) => (show ¬ TOwn sg km k by have := HLT9.out; rintro (e | e) <;> omega)) (by omega)), O.own_mod h.z hM (fun k hk => by simp only [Value.ownBlock, Option.some.injEq] at hk; exact (fun {k : Nat} (hk : W9.heap.size ≤ k) => (show ¬ TOwn sg km k by have := HLT9.out; rintro (e | e) <;> omega)) (by omega)), h.k1, h.k2, h.p, h.len, h.rise, h.ok⟩
      have hl := HLT9.out
      refine ⟨fun w w' h hb => h.keep hb, ?_, ?_, fun w w' u hu hc hM h => h.mod hM (show ¬ t = u by omega) (show ¬ sb = u by omega) (show ¬ sg = u by omega) (show ¬ kb = u by omega) (show ¬ km = u by omega), ?_, ?_, ?_, ?_⟩
      · rintro w w' ⟨gb, gk, h1, h2, h3⟩ hb
        exact ⟨gb, gk, h1.keep hb, kn _ _ _ _ h2 hb, h3⟩
      · rintro w w' v ⟨gb, gk, h1, h2, h3⟩ hb
        exact ⟨gb, gk, h1, kn _ _ _ _ h2 hb, h3⟩
      · rintro w w' u hu hc hM ⟨gb, gk, h1, h2, h3⟩
        exact ⟨gb, gk, h1.mod hM (show ¬ t = u by omega) (show ¬ sb = u by omega) (show ¬ sg = u by omega) (show ¬ kb = u by omega) (show ¬ km = u by omega), ko _ _ _ _ _ hc hM h2, h3⟩
      · rintro w w' u v hu hc hM ⟨gb, gk, h1, h2, h3⟩
        exact ⟨gb, gk, h1, ko _ _ _ _ _ hc hM h2, h3⟩
      · rintro w w' v hM ⟨gb, gk, h1, h2, h3⟩
        exact ⟨gb, gk, h1, kt _ _ _ _ h3.1 h3.2 hM h2, h3⟩
      · rintro k (e | e) <;> omega
    have HOK := hid hok
    clear hok
    refine wp_region_val 26 (RJ (TOwn sg km) (fun w1 => TreeAt w1 t sb sg kb km l L tk) (fun w1 => ∃ gb gk, TreeAt w1 t sb sg kb km ((l).set j ⟨true, (⟨2, ⟨#[]⟩, ⟨#[]⟩, ((c.extract s.depth c.size).extract 0 s.at_), ⟨some ⟨gb, 0, none⟩, 2, 2⟩, ⟨some ⟨gk, 0, none⟩, 2, 2⟩, false, false⟩ : Nd), pj.gen + 1⟩) (K.addL L rr).2 tk ∧ O.NodeIn w1 2 ((c.extract s.depth c.size).extract 0 s.at_) (some ⟨gb, 0, none⟩) 2 2 (some ⟨gk, 0, none⟩) 2 2 (forkK ⟨y.toNat, r.1, r.2⟩ ⟨x.toNat, lf.1, lf.2⟩) ∧ W9.heap.size ≤ gb ∧ W9.heap.size ≤ gk) (fun w1 v => ∃ gb gk, v = .agg #[.int .i64 2, .string ⟨#[]⟩, .string ⟨#[]⟩, .string ((c.extract s.depth c.size).extract 0 s.at_), .slice (some ⟨gb, 0, none⟩) 2 2, .slice (some ⟨gk, 0, none⟩) 2 2] ∧ O.NodeIn w1 2 ((c.extract s.depth c.size).extract 0 s.at_) (some ⟨gb, 0, none⟩) 2 2 (some ⟨gk, 0, none⟩) 2 2 (forkK ⟨y.toNat, r.1, r.2⟩ ⟨x.toNat, lf.1, lf.2⟩) ∧ W9.heap.size ≤ gb ∧ W9.heap.size ≤ gk) W9 30 #[.int .i64 0, .int .u32 0] (fun _ => #[.int .i64 j, .int .u32 (pj.gen + 1)]) false 18 19 23 24 [0, 1, 2, 3, 4, 5, 6, 7, 8, 9, 10, 11, 12, 13, 14, 15, 16, 17, 19, 20, 21, 22, 25] [] (fun j' => ([.pointer (some ⟨t, 0, none⟩), .pointer (some ⟨t, 0, none⟩), .pointer (some ⟨t, 0, none⟩), .string (c.extract s.depth c.size), .pointer (some ⟨b, 0, none⟩), .pointer (some ⟨b, 0, none⟩), .pointer (some ⟨b, 2, none⟩), .int .i64 s.at_, .string ((c.extract s.depth c.size).extract 0 s.at_), .int .u8 y.toNat, .agg #[.int .i64 r.1, .int .u32 r.2], .string (c.extract s.depth c.size), .pointer (some ⟨b, 0, none⟩), .pointer (some ⟨b, 0, none⟩), .pointer (some ⟨b, 2, none⟩), .int .i64 s.at_, .int .u8 x.toNat, .agg #[.int .i64 lf.1, .int .u32 lf.2], undef, .tuple #[.agg #[.int .i64 j, .int .u32 (pj.gen + 1)], .int .i64 0], .tuple #[.agg #[.int .i64 j, .int .u32 (pj.gen + 1)], .int .i64 0], .agg #[.int .i64 j, .int .u32 (pj.gen + 1)], .int .i64 0, undef, undef, .int .i64 0] : List Value)[j']?.getD undef) (fun _ x => x)) (by kernel_rfl) (by kernel_rfl) (by kernel_rfl) ?h0 ?hs ?hend
    case h0 => exact RJ.start (HT9.out.keep (Below.refl _ _).drew)
    case hs =>
      dsimp only [List.take, AllOpsI, dsts, fill]
      refine ⟨?_, ?_, ?_, ?_, ?_, ?_, ?_, ?_, ?_, ?_, ?_, ?_, ?_, ?_, ?_, ?_, ?_, ?_, ?_, ?_, ?_, ?_, ?_, ?_, ?_, ?_⟩
      · intro D xs w1 hDk hwt hJ
        have HJ := hid hJ
        have HWT := hid hwt
        clear hDk hwt hJ
        go_wp2_with (fail)
        first | exact ⟨.pointer (some ⟨t, 0, none⟩), by kernel_rfl, fun q hq => by obtain rfl := hq rfl; exact RJ.calm HOK.out HJ.out (by decide) (by decide) (by decide) (by decide) (by decide) (fun _ => rfl) (Below.refl _ _)⟩ | exact ⟨.pointer (some ⟨t, 0, none⟩), by kernel_rfl, RJ.calm HOK.out HJ.out (by decide) (by decide) (by decide) (by decide) (by decide) (fun _ => rfl) (Below.refl _ _)⟩
      · intro D xs w1 hDk hwt hJ
        have ee : xs 0 = .pointer (some ⟨t, 0, none⟩) := hJ.v 0 (hwt 0 (List.mem_of_elem_eq_true (by kernel_rfl))) (by decide)
        rw [ee]
        clear ee
        have HJ := hid hJ
        have HWT := hid hwt
        clear hDk hwt hJ
        go_wp2_with (fail)
        first | exact ⟨.pointer (some ⟨t, 0, none⟩), by kernel_rfl, fun q hq => by obtain rfl := hq rfl; exact RJ.calm HOK.out HJ.out (by decide) (by decide) (by decide) (by decide) (by decide) (fun _ => rfl) (Below.refl _ _)⟩ | exact ⟨.pointer (some ⟨t, 0, none⟩), by kernel_rfl, RJ.calm HOK.out HJ.out (by decide) (by decide) (by decide) (by decide) (by decide) (fun _ => rfl) (Below.refl _ _)⟩
      · intro D xs w1 hDk hwt hJ
        have ee : xs 1 = .pointer (some ⟨t, 0, none⟩) := hJ.v 1 (hwt 1 (List.mem_of_elem_eq_true (by kernel_rfl))) (by decide)
        rw [ee]
        clear ee
        have HJ := hid hJ
        have HWT := hid hwt
        clear hDk hwt hJ
        go_wp2_with (fail)
        first | exact ⟨.pointer (some ⟨t, 0, none⟩), by kernel_rfl, fun q hq => by obtain rfl := hq rfl; exact RJ.calm HOK.out HJ.out (by decide) (by decide) (by decide) (by decide) (by decide) (fun _ => rfl) (Below.refl _ _)⟩ | exact ⟨.pointer (some ⟨t, 0, none⟩), by kernel_rfl, RJ.calm HOK.out HJ.out (by decide) (by decide) (by decide) (by decide) (by decide) (fun _ => rfl) (Below.refl _ _)⟩
      · intro D xs w1 hDk hwt hJ
        have HJ := hid hJ
        have HWT := hid hwt
        clear hDk hwt hJ
        go_wp2_with (fail)
        first | exact ⟨.string (c.extract s.depth c.size), by kernel_rfl, fun q hq => by obtain rfl := hq rfl; exact RJ.calm HOK.out HJ.out (by decide) (by decide) (by decide) (by decide) (by decide) (fun _ => rfl) (Below.refl _ _)⟩ | exact ⟨.string (c.extract s.depth c.size), by kernel_rfl, RJ.calm HOK.out HJ.out (by decide) (by decide) (by decide) (by decide) (by decide) (fun _ => rfl) (Below.refl _ _)⟩
      · intro D xs w1 hDk hwt hJ
        have HJ := hid hJ
        have HWT := hid hwt
        clear hDk hwt hJ
        go_wp2_with (fail)
        first | exact ⟨.pointer (some ⟨b, 0, none⟩), by kernel_rfl, fun q hq => by obtain rfl := hq rfl; exact RJ.calm HOK.out HJ.out (by decide) (by decide) (by decide) (by decide) (by decide) (fun _ => rfl) (Below.refl _ _)⟩ | exact ⟨.pointer (some ⟨b, 0, none⟩), by kernel_rfl, RJ.calm HOK.out HJ.out (by decide) (by decide) (by decide) (by decide) (by decide) (fun _ => rfl) (Below.refl _ _)⟩
      · intro D xs w1 hDk hwt hJ
        have ee : xs 4 = .pointer (some ⟨b, 0, none⟩) := hJ.v 4 (hwt 4 (List.mem_of_elem_eq_true (by kernel_rfl))) (by decide)
        rw [ee]
        clear ee
        have HJ := hid hJ
        have HWT := hid hwt
        clear hDk hwt hJ
        go_wp2_with (fail)
        first | exact ⟨.pointer (some ⟨b, 0, none⟩), by kernel_rfl, fun q hq => by obtain rfl := hq rfl; exact RJ.calm HOK.out HJ.out (by decide) (by decide) (by decide) (by decide) (by decide) (fun _ => rfl) (Below.refl _ _)⟩ | exact ⟨.pointer (some ⟨b, 0, none⟩), by kernel_rfl, RJ.calm HOK.out HJ.out (by decide) (by decide) (by decide) (by decide) (by decide) (fun _ => rfl) (Below.refl _ _)⟩
      · intro D xs w1 hDk hwt hJ
        have ee : xs 5 = .pointer (some ⟨b, 0, none⟩) := hJ.v 5 (hwt 5 (List.mem_of_elem_eq_true (by kernel_rfl))) (by decide)
        rw [ee]
        clear ee
        have HJ := hid hJ
        have HWT := hid hwt
        clear hDk hwt hJ
        go_wp2_with (fail)
        first | exact ⟨.pointer (some ⟨b, 2, none⟩), by kernel_rfl, fun q hq => by obtain rfl := hq rfl; exact RJ.calm HOK.out HJ.out (by decide) (by decide) (by decide) (by decide) (by decide) (fun _ => rfl) (Below.refl _ _)⟩ | exact ⟨.pointer (some ⟨b, 2, none⟩), by kernel_rfl, RJ.calm HOK.out HJ.out (by decide) (by decide) (by decide) (by decide) (by decide) (fun _ => rfl) (Below.refl _ _)⟩
      · intro D xs w1 hDk hwt hJ
        have ee : xs 6 = .pointer (some ⟨b, 2, none⟩) := hJ.v 6 (hwt 6 (List.mem_of_elem_eq_true (by kernel_rfl))) (by decide)
        rw [ee]
        clear ee
        have s2 := cell_of (HS9.out.mod' hJ.m HNB.out.1 HNB.out.2).h 2
        have HJ := hid hJ
        have HWT := hid hwt
        clear hDk hwt hJ
        go_wp2_with (fail)
        first | exact ⟨.int .i64 s.at_, by kernel_rfl, fun q hq => by obtain rfl := hq rfl; exact RJ.calm HOK.out HJ.out (by decide) (by decide) (by decide) (by decide) (by decide) (fun _ => rfl) (Below.refl _ _)⟩ | exact ⟨.int .i64 s.at_, by kernel_rfl, RJ.calm HOK.out HJ.out (by decide) (by decide) (by decide) (by decide) (by decide) (fun _ => rfl) (Below.refl _ _)⟩
      · intro D xs w1 hDk hwt hJ
        have ee : xs 3 = .string (c.extract s.depth c.size) := hJ.v 3 (hwt 3 (List.mem_of_elem_eq_true (by kernel_rfl))) (by decide)
        rw [ee]
        clear ee
        have ee : xs 7 = .int .i64 s.at_ := hJ.v 7 (hwt 7 (List.mem_of_elem_eq_true (by kernel_rfl))) (by decide)
        rw [ee]
        clear ee
        have hxl := HXL.out
        have hes := HES.out
        have HJ := hid hJ
        have HWT := hid hwt
        clear hDk hwt hJ
        go_wp2_with (fail)
        first | exact ⟨.string ((c.extract s.depth c.size).extract 0 s.at_), by kernel_rfl, fun q hq => by obtain rfl := hq rfl; exact RJ.calm HOK.out HJ.out (by decide) (by decide) (by decide) (by decide) (by decide) (fun _ => rfl) (Below.refl _ _)⟩ | exact ⟨.string ((c.extract s.depth c.size).extract 0 s.at_), by kernel_rfl, RJ.calm HOK.out HJ.out (by decide) (by decide) (by decide) (by decide) (by decide) (fun _ => rfl) (Below.refl _ _)⟩
      · intro D xs w1 hDk hwt hJ
        have HJ := hid hJ
        have HWT := hid hwt
        clear hDk hwt hJ
        go_wp2_with (fail)
        first | exact ⟨.int .u8 y.toNat, by kernel_rfl, fun q hq => by obtain rfl := hq rfl; exact RJ.calm HOK.out HJ.out (by decide) (by decide) (by decide) (by decide) (by decide) (fun _ => rfl) (Below.refl _ _)⟩ | exact ⟨.int .u8 y.toNat, by kernel_rfl, RJ.calm HOK.out HJ.out (by decide) (by decide) (by decide) (by decide) (by decide) (fun _ => rfl) (Below.refl _ _)⟩
      · intro D xs w1 hDk hwt hJ
        have hr := (hJ.m.block rb (lt_of_block R9.out) HNB2.out.1).trans R9.out
        have n0 := cell_of hr 0
        have n1 := cell_of hr 1
        clear hr
        have HJ := hid hJ
        have HWT := hid hwt
        clear hDk hwt hJ
        go_wp2_with (fail)
        first | exact ⟨.agg #[.int .i64 r.1, .int .u32 r.2], by kernel_rfl, fun q hq => by obtain rfl := hq rfl; exact RJ.calm HOK.out HJ.out (by decide) (by decide) (by decide) (by decide) (by decide) (fun _ => rfl) (Below.refl _ _)⟩ | exact ⟨.agg #[.int .i64 r.1, .int .u32 r.2], by kernel_rfl, RJ.calm HOK.out HJ.out (by decide) (by decide) (by decide) (by decide) (by decide) (fun _ => rfl) (Below.refl _ _)⟩
      · intro D xs w1 hDk hwt hJ
        have HJ := hid hJ
        have HWT := hid hwt
        clear hDk hwt hJ
        go_wp2_with (fail)
        first | exact ⟨.string (c.extract s.depth c.size), by kernel_rfl, fun q hq => by obtain rfl := hq rfl; exact RJ.calm HOK.out HJ.out (by decide) (by decide) (by decide) (by decide) (by decide) (fun _ => rfl) (Below.refl _ _)⟩ | exact ⟨.string (c.extract s.depth c.size), by kernel_rfl, RJ.calm HOK.out HJ.out (by decide) (by decide) (by decide) (by decide) (by decide) (fun _ => rfl) (Below.refl _ _)⟩
      · intro D xs w1 hDk hwt hJ
        have HJ := hid hJ
        have HWT := hid hwt
        clear hDk hwt hJ
        go_wp2_with (fail)
        first | exact ⟨.pointer (some ⟨b, 0, none⟩), by kernel_rfl, fun q hq => by obtain rfl := hq rfl; exact RJ.calm HOK.out HJ.out (by decide) (by decide) (by decide) (by decide) (by decide) (fun _ => rfl) (Below.refl _ _)⟩ | exact ⟨.pointer (some ⟨b, 0, none⟩), by kernel_rfl, RJ.calm HOK.out HJ.out (by decide) (by decide) (by decide) (by decide) (by decide) (fun _ => rfl) (Below.refl _ _)⟩
      · intro D xs w1 hDk hwt hJ
        have ee : xs 12 = .pointer (some ⟨b, 0, none⟩) := hJ.v 12 (hwt 12 (List.mem_of_elem_eq_true (by kernel_rfl))) (by decide)
        rw [ee]
        clear ee
        have HJ := hid hJ
        have HWT := hid hwt
        clear hDk hwt hJ
        go_wp2_with (fail)
        first | exact ⟨.pointer (some ⟨b, 0, none⟩), by kernel_rfl, fun q hq => by obtain rfl := hq rfl; exact RJ.calm HOK.out HJ.out (by decide) (by decide) (by decide) (by decide) (by decide) (fun _ => rfl) (Below.refl _ _)⟩ | exact ⟨.pointer (some ⟨b, 0, none⟩), by kernel_rfl, RJ.calm HOK.out HJ.out (by decide) (by decide) (by decide) (by decide) (by decide) (fun _ => rfl) (Below.refl _ _)⟩
      · intro D xs w1 hDk hwt hJ
        have ee : xs 13 = .pointer (some ⟨b, 0, none⟩) := hJ.v 13 (hwt 13 (List.mem_of_elem_eq_true (by kernel_rfl))) (by decide)
        rw [ee]
        clear ee
        have HJ := hid hJ
        have HWT := hid hwt
        clear hDk hwt hJ
        go_wp2_with (fail)
        first | exact ⟨.pointer (some ⟨b, 2, none⟩), by kernel_rfl, fun q hq => by obtain rfl := hq rfl; exact RJ.calm HOK.out HJ.out (by decide) (by decide) (by decide) (by decide) (by decide) (fun _ => rfl) (Below.refl _ _)⟩ | exact ⟨.pointer (some ⟨b, 2, none⟩), by kernel_rfl, RJ.calm HOK.out HJ.out (by decide) (by decide) (by decide) (by decide) (by decide) (fun _ => rfl) (Below.refl _ _)⟩
      · intro D xs w1 hDk hwt hJ
        have ee : xs 14 = .pointer (some ⟨b, 2, none⟩) := hJ.v 14 (hwt 14 (List.mem_of_elem_eq_true (by kernel_rfl))) (by decide)
        rw [ee]
        clear ee
        have s2 := cell_of (HS9.out.mod' hJ.m HNB.out.1 HNB.out.2).h 2
        have HJ := hid hJ
        have HWT := hid hwt
        clear hDk hwt hJ
        go_wp2_with (fail)
        first | exact ⟨.int .i64 s.at_, by kernel_rfl, fun q hq => by obtain rfl := hq rfl; exact RJ.calm HOK.out HJ.out (by decide) (by decide) (by decide) (by decide) (by decide) (fun _ => rfl) (Below.refl _ _)⟩ | exact ⟨.int .i64 s.at_, by kernel_rfl, RJ.calm HOK.out HJ.out (by decide) (by decide) (by decide) (by decide) (by decide) (fun _ => rfl) (Below.refl _ _)⟩
      · intro D xs w1 hDk hwt hJ
        have ee : xs 11 = .string (c.extract s.depth c.size) := hJ.v 11 (hwt 11 (List.mem_of_elem_eq_true (by kernel_rfl))) (by decide)
        rw [ee]
        clear ee
        have ee : xs 15 = .int .i64 s.at_ := hJ.v 15 (hwt 15 (List.mem_of_elem_eq_true (by kernel_rfl))) (by decide)
        rw [ee]
        clear ee
        have hri := HRI.out
        have HJ := hid hJ
        have HWT := hid hwt
        clear hDk hwt hJ
        go_wp2_with (fail)
        first | exact ⟨.int .u8 x.toNat, by kernel_rfl, fun q hq => by obtain rfl := hq rfl; exact RJ.calm HOK.out HJ.out (by decide) (by decide) (by decide) (by decide) (by decide) (fun _ => rfl) (Below.refl _ _)⟩ | exact ⟨.int .u8 x.toNat, by kernel_rfl, RJ.calm HOK.out HJ.out (by decide) (by decide) (by decide) (by decide) (by decide) (fun _ => rfl) (Below.refl _ _)⟩
      · intro D xs w1 hDk hwt hJ
        have hr := (hJ.m.block lb (lt_of_block L9.out) HNB2.out.2).trans L9.out
        have n0 := cell_of hr 0
        have n1 := cell_of hr 1
        clear hr
        have HJ := hid hJ
        have HWT := hid hwt
        clear hDk hwt hJ
        go_wp2_with (fail)
        first | exact ⟨.agg #[.int .i64 lf.1, .int .u32 lf.2], by kernel_rfl, fun q hq => by obtain rfl := hq rfl; exact RJ.calm HOK.out HJ.out (by decide) (by decide) (by decide) (by decide) (by decide) (fun _ => rfl) (Below.refl _ _)⟩ | exact ⟨.agg #[.int .i64 lf.1, .int .u32 lf.2], by kernel_rfl, RJ.calm HOK.out HJ.out (by decide) (by decide) (by decide) (by decide) (by decide) (fun _ => rfl) (Below.refl _ _)⟩
      · intro D xs w1 hDk hwt hJ
        have hD : D 18 = false := hDk
        have ee : xs 8 = .string ((c.extract s.depth c.size).extract 0 s.at_) := hJ.v 8 (hwt 8 (List.mem_of_elem_eq_true (by kernel_rfl))) (by decide)
        rw [ee]
        clear ee
        have ee : xs 9 = .int .u8 y.toNat := hJ.v 9 (hwt 9 (List.mem_of_elem_eq_true (by kernel_rfl))) (by decide)
        rw [ee]
        clear ee
        have ee : xs 10 = .agg #[.int .i64 r.1, .int .u32 r.2] := hJ.v 10 (hwt 10 (List.mem_of_elem_eq_true (by kernel_rfl))) (by decide)
        rw [ee]
        clear ee
        have ee : xs 16 = .int .u8 x.toNat := hJ.v 16 (hwt 16 (List.mem_of_elem_eq_true (by kernel_rfl))) (by decide)
        rw [ee]
        clear ee
        have ee : xs 17 = .agg #[.int .i64 lf.1, .int .u32 lf.2] := hJ.v 17 (hwt 17 (List.mem_of_elem_eq_true (by kernel_rfl))) (by decide)
        rw [ee]
        clear ee
        have hsz := hJ.m.size
        have HJ := hid hJ
        have HWT := hid hwt
        clear hDk hwt hJ
        go_wp2_with (go_at_call 78; refine (HNF.out _).mono ?_; rintro e w2 ⟨gb, gk, rfl, hN2, hb2, hgb, hgk⟩)
        first | exact ⟨.agg #[.int .i64 2, .string ⟨#[]⟩, .string ⟨#[]⟩, .string ((c.extract s.depth c.size).extract 0 s.at_), .slice (some ⟨gb, 0, none⟩) 2 2, .slice (some ⟨gk, 0, none⟩) 2 2], by kernel_rfl, fun q hq => by obtain rfl := hq rfl; exact RJ.call HOK.out HJ.out (.inr fun _ _ => rfl) hD (by decide) (by decide) (by decide) (by decide) (by decide) ⟨gb, gk, rfl, hN2, by omega, by omega⟩ hb2⟩ | exact ⟨.agg #[.int .i64 2, .string ⟨#[]⟩, .string ⟨#[]⟩, .string ((c.extract s.depth c.size).extract 0 s.at_), .slice (some ⟨gb, 0, none⟩) 2 2, .slice (some ⟨gk, 0, none⟩) 2 2], by kernel_rfl, RJ.call HOK.out HJ.out (.inr fun _ _ => rfl) hD (by decide) (by decide) (by decide) (by decide) (by decide) ⟨gb, gk, rfl, hN2, by omega, by omega⟩ hb2⟩
      · intro D xs w1 hDk hwt hJ
        have hD : D 19 = false := hDk
        have ee : xs 2 = .pointer (some ⟨t, 0, none⟩) := hJ.v 2 (hwt 2 (List.mem_of_elem_eq_true (by kernel_rfl))) (by decide)
        rw [ee]
        clear ee
        obtain ⟨gb, gk, ea, hN, hgb, hgk⟩ := hJ.l (hwt 18 (List.mem_of_elem_eq_true (by kernel_rfl)))
        rw [ea]
        have hp := hJ.p
        rw [hD] at hp
        simp only [cond_false] at hp
        have htk := take_at 2 ⟨#[]⟩ ⟨#[]⟩ ((c.extract s.depth c.size).extract 0 s.at_) (some ⟨gb, 0, none⟩) (some ⟨gk, 0, none⟩) 2 2 2 2 false w1 hp (HR9.out.first HFJ.out) HCJ.out.1 HCJ.out.2.2 rr HRR.out.1 (by rw [HRR.out.2, HCJ.out.2.1])
        rw [HCJ.out.2.1] at htk
        have HTK := hid htk
        have HEA := hid ea
        have HN := hid hN
        clear hp htk ea hN
        have HJ := hid hJ
        have HWT := hid hwt
        clear hDk hwt hJ
        go_wp2_with (go_at_call 24; refine HTK.out.mono ?_; rintro e w2 ⟨rfl, hT2, hM2⟩)
        have hl9 := HLT9.out
        have hp1 : (fun w1 => ∃ gb gk, TreeAt w1 t sb sg kb km ((l).set j ⟨true, (⟨2, ⟨#[]⟩, ⟨#[]⟩, ((c.extract s.depth c.size).extract 0 s.at_), ⟨some ⟨gb, 0, none⟩, 2, 2⟩, ⟨some ⟨gk, 0, none⟩, 2, 2⟩, false, false⟩ : Nd), pj.gen + 1⟩) (K.addL L rr).2 tk ∧ O.NodeIn w1 2 ((c.extract s.depth c.size).extract 0 s.at_) (some ⟨gb, 0, none⟩) 2 2 (some ⟨gk, 0, none⟩) 2 2 (forkK ⟨y.toNat, r.1, r.2⟩ ⟨x.toNat, lf.1, lf.2⟩) ∧ W9.heap.size ≤ gb ∧ W9.heap.size ≤ gk) w2 := ⟨gb, gk, hT2, ⟨O.own_mod HN.out.b hM2 (fun k hk => by simp only [Value.ownBlock, Option.some.injEq] at hk; exact (fun {k : Nat} (hk : W9.heap.size ≤ k) => (show ¬ TOwn sg km k by have := HLT9.out; rintro (e | e) <;> omega)) (by omega)), O.own_mod HN.out.z hM2 (fun k hk => by simp only [Value.ownBlock, Option.some.injEq] at hk; exact (fun {k : Nat} (hk : W9.heap.size ≤ k) => (show ¬ TOwn sg km k by have := HLT9.out; rintro (e | e) <;> omega)) (by omega)), HN.out.k1, HN.out.k2, HN.out.p, HN.out.len, HN.out.rise, HN.out.ok⟩, hgb, hgk⟩
        first | exact ⟨.tuple #[.agg #[.int .i64 j, .int .u32 (pj.gen + 1)], .int .i64 0], by kernel_rfl, fun q hq => by obtain rfl := hq rfl; exact RJ.turn HOK.out HJ.out (by decide) (by decide) (by decide) (by decide) (fun _ => rfl) hp1 hM2⟩ | exact ⟨.tuple #[.agg #[.int .i64 j, .int .u32 (pj.gen + 1)], .int .i64 0], by kernel_rfl, RJ.turn HOK.out HJ.out (by decide) (by decide) (by decide) (by decide) (fun _ => rfl) hp1 hM2⟩
      · intro D xs w1 hDk hwt hJ
        have ee : xs 19 = .tuple #[.agg #[.int .i64 j, .int .u32 (pj.gen + 1)], .int .i64 0] := hJ.v 19 (hwt 19 (List.mem_of_elem_eq_true (by kernel_rfl))) (by decide)
        rw [ee]
        clear ee
        have HJ := hid hJ
        have HWT := hid hwt
        clear hDk hwt hJ
        go_wp2_with (fail)
        first | exact ⟨.tuple #[.agg #[.int .i64 j, .int .u32 (pj.gen + 1)], .int .i64 0], by kernel_rfl, fun q hq => by obtain rfl := hq rfl; exact RJ.calm HOK.out HJ.out (by decide) (by decide) (by decide) (by decide) (by decide) (fun _ => rfl) (Below.refl _ _)⟩ | exact ⟨.tuple #[.agg #[.int .i64 j, .int .u32 (pj.gen + 1)], .int .i64 0], by kernel_rfl, RJ.calm HOK.out HJ.out (by decide) (by decide) (by decide) (by decide) (by decide) (fun _ => rfl) (Below.refl _ _)⟩
      · intro D xs w1 hDk hwt hJ
        have ee : xs 20 = .tuple #[.agg #[.int .i64 j, .int .u32 (pj.gen + 1)], .int .i64 0] := hJ.v 20 (hwt 20 (List.mem_of_elem_eq_true (by kernel_rfl))) (by decide)
        rw [ee]
        clear ee
        have HJ := hid hJ
        have HWT := hid hwt
        clear hDk hwt hJ
        go_wp2_with (fail)
        first | exact ⟨.agg #[.int .i64 j, .int .u32 (pj.gen + 1)], by kernel_rfl, fun q hq => by obtain rfl := hq rfl; exact RJ.calm HOK.out HJ.out (by decide) (by decide) (by decide) (by decide) (by decide) (fun _ => rfl) (Below.refl _ _)⟩ | exact ⟨.agg #[.int .i64 j, .int .u32 (pj.gen + 1)], by kernel_rfl, RJ.calm HOK.out HJ.out (by decide) (by decide) (by decide) (by decide) (by decide) (fun _ => rfl) (Below.refl _ _)⟩
      · intro D xs w1 hDk hwt hJ
        have ee : xs 20 = .tuple #[.agg #[.int .i64 j, .int .u32 (pj.gen + 1)], .int .i64 0] := hJ.v 20 (hwt 20 (List.mem_of_elem_eq_true (by kernel_rfl))) (by decide)
        rw [ee]
        clear ee
        have HJ := hid hJ
        have HWT := hid hwt
        clear hDk hwt hJ
        go_wp2_with (fail)
        first | exact ⟨.int .i64 0, by kernel_rfl, fun q hq => by obtain rfl := hq rfl; exact RJ.calm HOK.out HJ.out (by decide) (by decide) (by decide) (by decide) (by decide) (fun _ => rfl) (Below.refl _ _)⟩ | exact ⟨.int .i64 0, by kernel_rfl, RJ.calm HOK.out HJ.out (by decide) (by decide) (by decide) (by decide) (by decide) (fun _ => rfl) (Below.refl _ _)⟩
      · intro D xs w1 hDk hwt hJ
        have hD : D 23 = false := hDk
        have HJ := hid hJ
        have HWT := hid hwt
        clear hDk hwt hJ
        go_wp2_with fail
        first | exact ⟨.pointer (some ⟨w1.heap.size, 0, none⟩), by kernel_rfl, fun q hq => by obtain rfl := hq rfl; exact RJ.alloc HOK.out HJ.out hD (by decide) (by decide) (by decide) (by decide) (by decide)⟩ | exact ⟨.pointer (some ⟨w1.heap.size, 0, none⟩), by kernel_rfl, RJ.alloc HOK.out HJ.out hD (by decide) (by decide) (by decide) (by decide) (by decide)⟩
      · intro D xs w1 hDk hwt hJ
        have hD : D 24 = false := hDk
        have hA := hwt 23 (List.mem_of_elem_eq_true (by kernel_rfl))
        obtain ⟨b0, hb0, eb0, hc0⟩ := hJ.a hA
        rw [eb0]
        have HEB := hid eb0
        clear eb0
        have ee : xs 21 = .agg #[.int .i64 j, .int .u32 (pj.gen + 1)] := hJ.v 21 (hwt 21 (List.mem_of_elem_eq_true (by kernel_rfl))) (by decide)
        rw [ee]
        clear ee
        rw [hD] at hc0
        simp only [cond_false] at hc0
        have q0 := cell_of hc0 0
        have q1 := cell_of hc0 1
        have qf := free_of hc0
        have HC := hid hc0
        clear hc0
        have HJ := hid hJ
        have HWT := hid hwt
        clear hDk hwt hJ
        go_wp2_with fail
        obtain ⟨m1, m2⟩ := (set2_mod (v := .int .i64 j) (v' := .int .u32 (pj.gen + 1)) HC.out)
        first | exact ⟨undef, by kernel_rfl, fun q _ => RJ.store HOK.out HJ.out hD ((fun e => by cases e)) hA HEB.out (by decide) (by decide) (by decide) (by decide) (by decide) m2 m1⟩ | exact ⟨by kernel_rfl, fun q => RJ.store HOK.out HJ.out hD ((fun e => by cases e)) hA HEB.out (by decide) (by decide) (by decide) (by decide) (by decide) m2 m1⟩
      · intro D xs w1 hDk hwt hJ
        have ee : xs 22 = .int .i64 0 := hJ.v 22 (hwt 22 (List.mem_of_elem_eq_true (by kernel_rfl))) (by decide)
        rw [ee]
        clear ee
        have HJ := hid hJ
        have HWT := hid hwt
        clear hDk hwt hJ
        go_wp2_with (fail)
        first | exact ⟨.int .i64 0, by kernel_rfl, fun q hq => by obtain rfl := hq rfl; exact RJ.calm HOK.out HJ.out (by decide) (by decide) (by decide) (by decide) (by decide) (fun _ => rfl) (Below.refl _ _)⟩ | exact ⟨.int .i64 0, by kernel_rfl, RJ.calm HOK.out HJ.out (by decide) (by decide) (by decide) (by decide) (by decide) (fun _ => rfl) (Below.refl _ _)⟩
    case hend =>
      intro D xs w10 hD hJ
      have hp := hJ.p
      rw [hD 19 (by omega)] at hp
      simp only [cond_true] at hp
      obtain ⟨gb, gk, hTA, hN, hgb, hgk⟩ := hp
      obtain ⟨u, hu, eu, hc⟩ := hJ.a (hD 23 (by omega))
      rw [hD 24 (by omega)] at hc
      simp only [cond_true] at hc
      have hM := hJ.m
      have HP10 : Hid (TreeP w10 t sb sg kb km ((P).set j ⟨true, ⟨.inner 2 ((rst c s.depth).extract 0 s.at_) (forkK ⟨y.toNat, r.1, r.2⟩ ⟨x.toNat, lf.1, lf.2⟩), false, false⟩, pj.gen + 1⟩) (K.addL L rr).2 tk) := hid ⟨_, hTA, Rel.set (x := (⟨2, ⟨#[]⟩, ⟨#[]⟩, ((c.extract s.depth c.size).extract 0 s.at_), ⟨some ⟨gb, 0, none⟩, 2, 2⟩, ⟨some ⟨gk, 0, none⟩, 2, 2⟩, false, false⟩ : Nd)) (q := ⟨.inner 2 ((rst c s.depth).extract 0 s.at_) (forkK ⟨y.toNat, r.1, r.2⟩ ⟨x.toNat, lf.1, lf.2⟩), false, false⟩) (HR9.out.mod hM HT9.out.noRow) true (fun _ => ⟨rfl, rfl, rfl, rfl, rfl, rfl, hN, forkK_may _ _ _⟩)⟩
      have HS10 := hid (HS9.out.mod' hM HNB.out.1 HNB.out.2)
      have R10 := hid ((hM.block rb (lt_of_block R9.out) HNB2.out.1).trans R9.out)
      have U10 : Hid (w10.heap[u]? = some (.cells #[.int .i64 j, .int .u32 (pj.gen + 1)] 30 (0, 0))) := hid hc
      have HRM10 := hid (rooms_mod HRM9.out hM H0.out)
      have HM10 := hid (HM9.out.trans hM (fun _ _ h => h))
      have hlt9 := HLT9.out
      have HNS : Hid (¬ rb = sg ∧ ¬ u = sg ∧ ¬ b = sg ∧ ¬ g = sg) := hid ⟨fun e => HNB2.out.1 (.inl e), by omega, fun e => HNB.out.1 (.inl e), fun e => HNB.out.2 (.inl e)⟩
      have HLU : Hid (LiveP ((P).set j ⟨true, ⟨.inner 2 ((rst c s.depth).extract 0 s.at_) (forkK ⟨y.toNat, r.1, r.2⟩ ⟨x.toNat, lf.1, lf.2⟩), false, false⟩, pj.gen + 1⟩) u0.1 u0.2 iu ⟨.inner k pt Lk, pl, di⟩) := hid (by obtain ⟨e, p, h1, h2⟩ := HQU.out; exact ⟨e, p, by rw [List.getElem?_set_ne HJU.out]; exact h1, h2⟩)
      dsimp only [List.take, dsts, fill, List.drop]
      rw [eu]
      clear hD hJ hTA hN hgb hgk hu eu hc hM hlt9 HOK
      go_wp2_with fail
      refine wp_region_seqI 8 (Turn 7 (KidJ w10 t sb sg kb km ((P).set j ⟨true, ⟨.inner 2 ((rst c s.depth).extract 0 s.at_) (forkK ⟨y.toNat, r.1, r.2⟩ ⟨x.toNat, lf.1, lf.2⟩), false, false⟩, pj.gen + 1⟩) (K.addL L rr).2 tk) (KidJ w10 t sb sg kb km ((((P).set j ⟨true, ⟨.inner 2 ((rst c s.depth).extract 0 s.at_) (forkK ⟨y.toNat, r.1, r.2⟩ ⟨x.toNat, lf.1, lf.2⟩), false, false⟩, pj.gen + 1⟩)).set iu ⟨true, ⟨.inner k pt (turnK Lk kk.b j (pj.gen + 1)), pl, di⟩, u0.2⟩) (K.addL L rr).2 tk)) (by kernel_rfl) (by kernel_rfl) (by kernel_rfl) (Turn.start ⟨(Mod.refl (· = sg) w10).drew, HP10.out.keep (Below.refl _ _).drew⟩) ?_
      dsimp only [List.take]
      iterate 7
        refine Seq.calm (a' := ?_) (by decide) ?_ ?_ ?_
        rotate_left
        ·
          intro w1 hw1
          have hM : Mod (· = sg) w10 w1 := hw1.elim KidJ.m KidJ.m; have n0 := cell_of ((hM.block rb (lt_of_block R10.out) HNS.out.1).trans R10.out) 0; have n1 := cell_of ((hM.block rb (lt_of_block R10.out) HNS.out.1).trans R10.out) 1; have m0 := cell_of ((hM.block u (lt_of_block U10.out) HNS.out.2.1).trans U10.out) 0; have m1 := cell_of ((hM.block u (lt_of_block U10.out) HNS.out.2.1).trans U10.out) 1; have HUX := hid (HU1.out w1 (HS10.out.mod' hM HNS.out.2.2.1 HNS.out.2.2.2)); clear hM
          go_wp2_with (go_at_call 37; refine HUX.out.mono ?_; rintro e w' ⟨rfl, hb⟩)
          first | (refine ⟨?_, id, id⟩; exact rfl) | (refine ⟨?_, (fun h => KidJ.keep h hb), (fun h => KidJ.keep h hb)⟩; exact rfl)
        · kernel_rfl
      refine Seq.turn (a' := ?_) ?_ ?_ ?_
      rotate_left
      ·
        intro w1 hw1
        have HM := hid hw1.m
        have HTT := hid hw1.t
        have HRMX := hid (rooms_mod HRM10.out hw1.m (fun e => H0.out (.inl e)))
        clear hw1
        go_wp2_with (go_at_call 43; refine (kid_P u0.1 u0.2 r.1 r.2 j (pj.gen + 1) w1 HTT.out HRMX.out HLU.out HKJ.out HKF.out HKS.out.1 HKS.out.2 HKN.out HKO.out).mono ?_; rintro e w2 ⟨rfl, hT, hX⟩)
        refine ⟨?_, HM.out.trans hX (fun _ _ h => h), hT⟩
        exact rfl
      · kernel_rfl
      iterate 0
        refine Seq.calm (a' := ?_) (by decide) ?_ ?_ ?_
        rotate_left
        ·
          intro w1 hw1
          have hM : Mod (· = sg) w10 w1 := hw1.elim KidJ.m KidJ.m; have n0 := cell_of ((hM.block rb (lt_of_block R10.out) HNS.out.1).trans R10.out) 0; have n1 := cell_of ((hM.block rb (lt_of_block R10.out) HNS.out.1).trans R10.out) 1; have m0 := cell_of ((hM.block u (lt_of_block U10.out) HNS.out.2.1).trans U10.out) 0; have m1 := cell_of ((hM.block u (lt_of_block U10.out) HNS.out.2.1).trans U10.out) 1; have HUX := hid (HU1.out w1 (HS10.out.mod' hM HNS.out.2.2.1 HNS.out.2.2.2)); clear hM
          go_wp2_with (go_at_call 37; refine HUX.out.mono ?_; rintro e w' ⟨rfl, hb⟩)
          first | (refine ⟨?_, id, id⟩; exact rfl) | (refine ⟨?_, (fun h => KidJ.keep h hb), (fun h => KidJ.keep h hb)⟩; exact rfl)
        · kernel_rfl
      refine SeqI.nil ?_
      intro D w1 hD hI
      replace hI := hI.done (hD 7 (by omega))
      clear hD
      dsimp only [List.drop]
      have HI := hid hI
      clear hI
      go_wp2_with fail
      go_end0
      exact ⟨rfl, HI.out.t, HM10.out.trans HI.out.m (fun _ _ h => .inl h)⟩
end Go.Proofs.YtnngicopphiaaaaGreatDoor.T
