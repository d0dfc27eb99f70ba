/- Part 27 of 51 of a proof: lemmas on the functions that it reaches. -/
import Derived.Test.YtnngicopphiaaaaGreatDoorC26
import Derived.Test.YtnngicopphiaaaaGreatDoorRows
import Derived.Test.YtnngicopphiaaaaGreatDoorC02
import Derived.Laws.Strings
import Derived.BigQuiet
namespace Go.Proofs.YtnngicopphiaaaaGreatDoor.T
set_option maxRecDepth 8000
open Go.ChangeShapes Go.WideShapes Go.ChangeAt Go.RowKit Go.Burg
open Go.Burg.Lk
theorem st6 {w3 : World} {u : Nat} {kn kn2 : Int} {cd vl pt cd2 vl2 pt2 : ByteArray} {ya za ya2 za2 : Option Addr} {yn yc zn zc yn2 yc2 zn2 zc2 : Nat} {pl di : Bool} (h : w3.heap[u]? = some (.cells #[.int .i64 kn, .string cd, .string vl, .string pt, .slice ya yn yc, .slice za zn zc, .bool pl, .bool di] 61 (0, 0))) :
    ((((((w3.setCell ⟨u, 0, none⟩ (.int .i64 kn2)).setCell ⟨u, 1, none⟩ (.string cd2)).setCell ⟨u, 2, none⟩ (.string vl2)).setCell ⟨u, 3, none⟩ (.string pt2)).setCell ⟨u, 4, none⟩ (.slice ya2 yn2 yc2)).setCell ⟨u, 5, none⟩ (.slice za2 zn2 zc2)).heap[u]? = some (.cells #[.int .i64 kn2, .string cd2, .string vl2, .string pt2, .slice ya2 yn2 yc2, .slice za2 zn2 zc2, .bool pl, .bool di] 61 (0, 0)) ∧ Mod (· = u) w3 ((((((w3.setCell ⟨u, 0, none⟩ (.int .i64 kn2)).setCell ⟨u, 1, none⟩ (.string cd2)).setCell ⟨u, 2, none⟩ (.string vl2)).setCell ⟨u, 3, none⟩ (.string pt2)).setCell ⟨u, 4, none⟩ (.slice ya2 yn2 yc2)).setCell ⟨u, 5, none⟩ (.slice za2 zn2 zc2)) := by
  refine ⟨set_at (cs := #[.int .i64 kn2, .string cd2, .string vl2, .string pt2, .slice ya2 yn2 yc2, .slice za zn zc, .bool pl, .bool di]) (set_at (cs := #[.int .i64 kn2, .string cd2, .string vl2, .string pt2, .slice ya yn yc, .slice za zn zc, .bool pl, .bool di]) (set_at (cs := #[.int .i64 kn2, .string cd2, .string vl2, .string pt, .slice ya yn yc, .slice za zn zc, .bool pl, .bool di]) (set_at (cs := #[.int .i64 kn2, .string cd2, .string vl, .string pt, .slice ya yn yc, .slice za zn zc, .bool pl, .bool di]) (set_at (cs := #[.int .i64 kn2, .string cd, .string vl, .string pt, .slice ya yn yc, .slice za zn zc, .bool pl, .bool di]) (set_at h rfl) rfl) rfl) rfl) rfl) rfl, ?_⟩
  have stp : ∀ {A : World} (j : Nat) (v : Value), Mod (· = u) w3 A → Mod (· = u) w3 (A.setCell ⟨u, j, none⟩ v) := fun j v h => Mod.setCell (S := (· = u)) (p := ⟨u, j, none⟩) h (.inl rfl) v
  exact stp _ _ (stp _ _ (stp _ _ (stp _ _ (stp _ _ (stp _ _ (Mod.refl _ _))))))
set_option maxRecDepth 20000 in
set_option maxHeartbeats 8000000 in
theorem pset_at {t sb sg kb km i : Nat} {l : List (Cel Nd)} {L : List (RefK × Wd)} {tk : Int} {c : Cel Nd} (slot gen : Int) (kn2 : Int) (cd2 vl2 pt2 : ByteArray) (ya2 za2 : Option Addr) (yn2 yc2 zn2 zc2 : Nat) (w : World) (h : TreeAt w t sb sg kb km l L tk) (hL : S.Live l slot gen i c) :
    Calls Tryz.prog 39 #[.pointer (some ⟨t, 0, none⟩), .agg #[.int .i64 slot, .int .u32 gen], .agg #[.int .i64 kn2, .string cd2, .string vl2, .string pt2, .slice ya2 yn2 yc2, .slice za2 zn2 zc2]] w fun e w' => e = .returned (.tuple #[]) ∧ TreeAt w' t sb sg kb km (l.set i ⟨c.is, (⟨kn2, cd2, vl2, pt2, ⟨ya2, yn2, yc2⟩, ⟨za2, zn2, zc2⟩, c.x.planted, c.x.died⟩ : Nd), c.gen⟩) L tk ∧ Mod (· = sg) w w' := by
  have hN := blk_alloc (o' := (.cells #[.int .i64 kn2, .string cd2, .string vl2, .string pt2, .slice ya2 yn2 yc2, .slice za2 zn2 zc2] 53 (0, 0))) (heap_new w (.cells #[.int .i64 slot, .int .u32 gen] 30 (0, 0)))
  have hZ := heap_new (w.alloc (.cells #[.int .i64 slot, .int .u32 gen] 30 (0, 0))) (.cells #[.int .i64 kn2, .string cd2, .string vl2, .string pt2, .slice ya2 yn2 yc2, .slice za2 zn2 zc2] 53 (0, 0))
  have hs1 : (w.alloc (.cells #[.int .i64 slot, .int .u32 gen] 30 (0, 0))).heap.size = w.heap.size + 1 := by simp
  rw [hs1] at hZ
  have hA := (h.alloc (.cells #[.int .i64 slot, .int .u32 gen] 30 (0, 0))).alloc (.cells #[.int .i64 kn2, .string cd2, .string vl2, .string pt2, .slice ya2 yn2 yc2, .slice za2 zn2 zc2] 53 (0, 0))
  have hB : Below w.heap.size w ((w.alloc (.cells #[.int .i64 slot, .int .u32 gen] 30 (0, 0))).alloc (.cells #[.int .i64 kn2, .string cd2, .string vl2, .string pt2, .slice ya2 yn2 yc2, .slice za2 zn2 zc2] 53 (0, 0))) := ((Below.refl _ _).alloc (Nat.le_refl _) _).alloc (by simp) _
  obtain ⟨is, ⟨kn, cd, vl, pt, ⟨ya, yn, yc⟩, ⟨za, zn, zc⟩, pl, di⟩, gn⟩ := c
  have hlt : t < w.heap.size ∧ sb < w.heap.size ∧ sg < w.heap.size ∧ kb < w.heap.size ∧ km < w.heap.size := ⟨lt_of_block h.ht, h.hs.blt, h.hs.glt, h.hk.lt.1, h.hk.lt.2⟩
  clear hs1
  generalize hW : (w.alloc (.cells #[.int .i64 slot, .int .u32 gen] 30 (0, 0))).alloc (.cells #[.int .i64 kn2, .string cd2, .string vl2, .string pt2, .slice ya2 yn2 yc2, .slice za2 zn2 zc2] 53 (0, 0)) = W at *
  have HW := hid hW
  have HA := hid hA
  have HN := hid hN
  have HZ := hid hZ
  have HB := hid hB
  have HL := hid hL
  have HLT := hid hlt
  have HT : Hid (∀ w1, Below W.heap.size W w1 → Calls Tryz.prog 30 #[.pointer (some ⟨sb, 0, none⟩), .agg #[.int .i64 slot, .int .u32 gen]] w1 fun e w' => e = .returned (.tuple #[.agg #[.int .i64 kn, .string cd, .string vl, .string pt, .slice ya yn yc, .slice za zn zc, .bool pl, .bool di], .bool true]) ∧ Below w1.heap.size w1 w') := hid (fun (w1 : World) (hw1 : Below W.heap.size W w1) => S.get_live slot gen w1 (HA.out.keep hw1).hs hL)
  have c0 := cell_of HA.out.ht 0
  have n0 := cell_of HN.out 0
  have n1 := cell_of HN.out 1
  have l0 := lt_of_block HN.out
  have l1 := lt_of_block HA.out.ht
  have l2 := lt_of_block HZ.out
  clear hW hA hN hB hZ h hL hlt
  go_enter Tryz.func39, Tryz.ntmps39
  go_wp2_with fail
  rw [HW.out]
  go_region_with (go_at_call 30; refine (HT.out _ (by (repeat (first | exact Below.refl _ _ | assumption | with_reducible refine Below.drew ?_ | with_reducible refine below_drewN ?_ | with_reducible refine Below.setCell ?_ (by first | (simp; done) | (simp; omega)) _ | with_reducible refine Below.alloc ?_ (by first | exact Nat.le_refl _ | (simp; done) | (simp; omega)) _)))).mono ?_; rintro e w2 ⟨rfl, hw2⟩; (try (have z := (hw2.block W.heap.size (by simp)).trans (heap_new W (.cells #[.int .i64 0, .string ⟨#[]⟩, .string ⟨#[]⟩, .string ⟨#[]⟩, .slice none 0 0, .slice none 0 0, .bool false, .bool false] 61 (0, 0))); have z0 := cell_of z 0; have z1 := cell_of z 1; have z2 := cell_of z 2; have z3 := cell_of z 3; have z4 := cell_of z 4; have z5 := cell_of z 5; have z6 := cell_of z 6; have z7 := cell_of z 7; have zf := free_of z)); have HW2 : Hid (Below W.heap.size W w2) := hid (below_chain (by (repeat (first | exact Below.refl _ _ | assumption | with_reducible refine Below.drew ?_ | with_reducible refine below_drewN ?_ | with_reducible refine Below.setCell ?_ (by first | (simp; done) | (simp; omega)) _ | with_reducible refine Below.alloc ?_ (by first | exact Nat.le_refl _ | (simp; done) | (simp; omega)) _))) hw2 (by first | exact Nat.le_refl _ | (simp; done) | (simp; omega))); clear hw2)
  all_goals first | (have hmid := nmidB (kn := kn) (cd := cd) (vl := vl) (pt := pt) (ya := ya) (za := za) (yn := yn) (yc := yc) (zn := zn) (zc := zc) (pl := pl) (di := di) HW2.out z; generalize hE : ((((((((w2.setCell ⟨W.heap.size, 0, none⟩ (.int .i64 kn)).setCell ⟨W.heap.size, 1, none⟩ (.string cd)).setCell ⟨W.heap.size, 2, none⟩ (.string vl)).setCell ⟨W.heap.size, 3, none⟩ (.string pt)).setCell ⟨W.heap.size, 4, none⟩ (.slice ya yn yc)).setCell ⟨W.heap.size, 5, none⟩ (.slice za zn zc)).setCell ⟨W.heap.size, 6, none⟩ (.bool pl)).setCell ⟨W.heap.size, 7, none⟩ (.bool di)) = w3 at hmid ⊢; generalize hEu : W.heap.size = u at hmid ⊢) | (have hmid := nmidA (o := (.cells #[.int .i64 kn, .string cd, .string vl, .string pt, .slice ya yn yc, .slice za zn zc, .bool pl, .bool di] 61 (0, 0))) HW2.out; generalize hE : w2.alloc (.cells #[.int .i64 kn, .string cd, .string vl, .string pt, .slice ya yn yc, .slice za zn zc, .bool pl, .bool di] 61 (0, 0)) = w3 at hmid ⊢; generalize hEu : w2.heap.size = u at hmid ⊢)
  all_goals
    try clear z z0 z1 z2 z3 z4 z5 z6 z7 zf
    clear hE hEu HT c0 n0 n1 HW2
    obtain ⟨hb3, hu, ho⟩ := hmid
    have y := blk_below HZ.out hb3 l2
    have hn := blk_below HN.out hb3 l0
    have ht := blk_below HA.out.ht hb3 l1
    have o0 := cell_of ho 0
    have o1 := cell_of ho 1
    have o2 := cell_of ho 2
    have o3 := cell_of ho 3
    have o4 := cell_of ho 4
    have o5 := cell_of ho 5
    have of := free_of ho
    have y0 := cell_of y 0
    have y1 := cell_of y 1
    have y2 := cell_of y 2
    have y3 := cell_of y 3
    have y4 := cell_of y 4
    have y5 := cell_of y 5
    have hA3 := HA.out.keep hb3
    have HS6 := hid (st6 (kn2 := kn2) (cd2 := cd2) (vl2 := vl2) (pt2 := pt2) (ya2 := ya2) (yn2 := yn2) (yc2 := yc2) (za2 := za2) (zn2 := zn2) (zc2 := zc2) ho)
    have HY := hid y
    have HN3 := hid hn
    have HT3 := hid ht
    have HA3 := hid hA3
    have HB3 := hid hb3
    have hWs := HB.out.size
    clear y hn ht ho hb3 hA3 HN HZ HA
    go_wp2_with fail
    have hlt := HLT.out
    obtain ⟨hO4, hM34⟩ := HS6.out
    have hM4 : Mod (· = u) w3 _ := hM34
    generalize ((((((w3.setCell ⟨u, 0, none⟩ (.int .i64 kn2)).setCell ⟨u, 1, none⟩ (.string cd2)).setCell ⟨u, 2, none⟩ (.string vl2)).setCell ⟨u, 3, none⟩ (.string pt2)).setCell ⟨u, 4, none⟩ (.slice ya2 yn2 yc2)).setCell ⟨u, 5, none⟩ (.slice za2 zn2 zc2)) = w4 at *
    have hts : t ≠ sg := HA3.out.ne.1
    have hns : w.heap.size ≠ sg := by omega
    have hus : u ≠ sg := by omega
    have HT4 := hid ((hM4.block t (lt_of_block HT3.out) (show ¬ t = u by omega)).trans HT3.out)
    have HN4 := hid ((hM4.block w.heap.size (lt_of_block HN3.out) (show ¬ w.heap.size = u by omega)).trans HN3.out)
    have HO4 := hid hO4
    have HA4 := hid (HA3.out.mod hM4 (show ¬ t = u by omega) (show ¬ sb = u by omega) (show ¬ sg = u by omega) (show ¬ kb = u by omega) (show ¬ km = u by omega))
    have HM4 : Hid (Mod (· = sg) w w4) := hid ((Mod.ofBelow (S := (· = sg)) (HB.out.trans (HB3.out.mono hWs))).trans hM4 (fun i hi e => by have : i = u := e; omega))
    clear hO4 hM34 hM4 HS6 o0 o1 o2 o3 o4 o5 of y0 y1 y2 y3 y4 y5
    refine wp_region_seqI 7 (Turn 6 (fun w1 => Mod (· = sg) w4 w1 ∧ SlabN 124 106 w1 sb sg l) (fun w1 => Mod (· = sg) w4 w1 ∧ SlabN 124 106 w1 sb sg (l.set i ⟨is, (⟨kn2, cd2, vl2, pt2, ⟨ya2, yn2, yc2⟩, ⟨za2, zn2, zc2⟩, pl, di⟩ : Nd), gn⟩))) (by kernel_rfl) (by kernel_rfl) (by kernel_rfl) (Turn.start ⟨(Mod.refl (· = sg) w4).drew, HA4.out.hs.same rfl rfl⟩) ?_
    dsimp only [List.take]
    iterate 6
      refine Seq.calm (a' := ?_) (by decide) ?_ ?_ ?_
      rotate_left
      ·
        intro w1 hw1
        have hM : Mod (· = sg) w4 w1 := hw1.elim (·.1) (·.1)
        have ht := (hM.block t (lt_of_block HT4.out) hts).trans HT4.out
        have hn := (hM.block w.heap.size (lt_of_block HN4.out) hns).trans HN4.out
        have ho := (hM.block u (lt_of_block HO4.out) hus).trans HO4.out
        have c0 := cell_of ht 0
        have n0 := cell_of hn 0
        have n1 := cell_of hn 1
        have o0 := cell_of ho 0
        have o1 := cell_of ho 1
        have o2 := cell_of ho 2
        have o3 := cell_of ho 3
        have o4 := cell_of ho 4
        have o5 := cell_of ho 5
        have o6 := cell_of ho 6
        have o7 := cell_of ho 7
        clear hM ht hn ho hw1
        go_wp2_with (fail)
        first | (refine ⟨?_, id, id⟩; exact rfl) | (refine ⟨?_, fail⟩; exact rfl)
      · kernel_rfl
    refine Seq.turn (a' := ?_) ?_ ?_ ?_
    rotate_left
    ·
      intro w1 hw1
      have HM := hid hw1.1
      have HS1 := hid hw1.2
      clear hw1
      go_wp2_with (go_at_call 76; refine (S.set_live slot gen _ HS1.out HL.out).mono ?_; rintro e w2 ⟨rfl, hS, hX⟩)
      refine ⟨?_, HM.out.trans hX (fun _ _ h => h), hS⟩
      exact rfl
    · kernel_rfl
    iterate 0
      refine Seq.calm (a' := ?_) (by decide) ?_ ?_ ?_
      rotate_left
      ·
        intro w1 hw1
        have hM : Mod (· = sg) w4 w1 := hw1.elim (·.1) (·.1)
        have ht := (hM.block t (lt_of_block HT4.out) hts).trans HT4.out
        have hn := (hM.block w.heap.size (lt_of_block HN4.out) hns).trans HN4.out
        have ho := (hM.block u (lt_of_block HO4.out) hus).trans HO4.out
        have c0 := cell_of ht 0
        have n0 := cell_of hn 0
        have n1 := cell_of hn 1
        have o0 := cell_of ho 0
        have o1 := cell_of ho 1
        have o2 := cell_of ho 2
        have o3 := cell_of ho 3
        have o4 := cell_of ho 4
        have o5 := cell_of ho 5
        have o6 := cell_of ho 6
        have o7 := cell_of ho 7
        clear hM ht hn ho hw1
        go_wp2_with (fail)
        first | (refine ⟨?_, id, id⟩; exact rfl) | (refine ⟨?_, fail⟩; exact rfl)
      · kernel_rfl
    refine SeqI.nil ?_
    intro D w1 hD hI
    replace hI := hI.done (hD 6 (by omega))
    clear hD
    dsimp only [List.drop]
    obtain ⟨hM1, hS1⟩ := hI
    have HE := hid (And.intro hM1 hS1)
    clear hM1 hS1
    go_wp2_with fail
    go_end0
    obtain ⟨hM1, hS1⟩ := HE.out
    have hne := HA4.out.ne
    exact ⟨rfl, ⟨(hM1.block t (lt_of_block HT4.out) hts).trans HT4.out, hS1, HA4.out.hk.mod hM1 hne.2.2.2.2.1 (fun e => hne.2.2.2.2.2.2 e.symm)⟩, HM4.out.trans hM1 (fun _ _ h => h)⟩
end Go.Proofs.YtnngicopphiaaaaGreatDoor.T

namespace Go.Burg
open Go Go.RowKit
inductive PN
  | leaf (c v : ByteArray)
  | inner (k : Nat) (pt : ByteArray) (L : List Kd)
structure PNd where
  n : PN
  planted : Bool
  died : Bool
def LiveP (P : List (Cel PNd)) (slot gen : Int) (i : Nat) (q : PNd) : Prop := slot = i ∧ ∃ p, P[i]? = some p ∧ p.is = true ∧ p.gen = gen ∧ p.x = q
theorem LiveP.uniq {P : List (Cel PNd)} {s g : Int} {i j : Nat} {q q' : PNd} (h : LiveP P s g i q) (h' : LiveP P s g j q') : i = j ∧ q = q' := by
  obtain ⟨e, p, h1, _, _, h4⟩ := h
  obtain ⟨e', p', h1', _, _, h4'⟩ := h'
  have : i = j := by omega
  subst this
  rw [h1] at h1'
  cases h1'
  exact ⟨rfl, h4.symm.trans h4'⟩
def refsL (W : List (Int × Int)) : List Value := W.flatMap fun r => [.int .i64 r.1, .int .u32 r.2]
theorem refsL_len : ∀ W : List (Int × Int), (refsL W).length = W.length * 2
  | [] => rfl
  | r :: W => by
    have := refsL_len W
    simp only [refsL, List.flatMap_cons, List.length_append, List.length_cons, List.length_nil] at this ⊢
    omega
theorem refsL_app (A B : List (Int × Int)) : refsL (A ++ B) = refsL A ++ refsL B := by simp [refsL]
theorem refsL_get : ∀ {W : List (Int × Int)} {i : Nat} {r : Int × Int}, W[i]? = some r → (refsL W)[i * 2]? = some (.int .i64 r.1) ∧ (refsL W)[i * 2 + 1]? = some (.int .u32 r.2)
  | [], i, r, h => by simp at h
  | a :: W, 0, r, h => by
    simp at h
    subst h
    exact ⟨rfl, rfl⟩
  | a :: W, i + 1, r, h => by
    have := refsL_get (W := W) (i := i) (by simpa using h)
    rw [show (i + 1) * 2 = i * 2 + 2 by omega]
    simpa [refsL] using this
end Go.Burg
namespace Go.Proofs.YtnngicopphiaaaaGreatDoor.T
set_option maxRecDepth 8000
open Go.ChangeShapes Go.WideShapes Go.ChangeAt Go.RowKit Go.Burg
open Go.Burg.Lk
def NdIs (w : World) (x : Nd) : PN → Prop
  | .leaf c v => x.kind = 1 ∧ x.code = c ∧ x.value = v ∧ x.path = ⟨#[]⟩ ∧ x.bytes = ⟨none, 0, 0⟩ ∧ x.kids = ⟨none, 0, 0⟩
  | .inner k pt L => x.kind = k ∧ x.code = ⟨#[]⟩ ∧ x.value = ⟨#[]⟩ ∧ x.path = pt ∧ O.NodeIn w k pt x.bytes.a x.bytes.n x.bytes.c x.kids.a x.kids.n x.kids.c L ∧ O.MayB k L.length pt
structure Rel (w : World) (l : List (Cel Nd)) (P : List (Cel PNd)) : Prop where
  len : l.length = P.length
  at_ : ∀ (i : Nat) (c : Cel Nd), l[i]? = some c → ∃ p : Cel PNd, P[i]? = some p ∧ p.is = c.is ∧ p.gen = c.gen ∧ (c.is = true → p.x.planted = c.x.planted ∧ p.x.died = c.x.died ∧ NdIs w c.x p.x.n)
def NoRow (w : World) (k : Nat) : Prop := ∀ cs T fr, w.heap[k]? = some (.cells cs T fr) → T ≠ 5 ∧ T ≠ 30
section
variable {w w' : World} {l : List (Cel Nd)} {P : List (Cel PNd)} {x : Nd} {n : PN}
theorem own_not {e : TypeId} {s n k : Nat} {v : Value} {xs : List Value} (h : w.ownsRow 0 e s v n xs) (he : e = 5 ∨ e = 30) (hk : v.ownBlock = some k) : ¬ NoRow w k := by
  intro hn
  obtain ⟨_, ⟨rfl, _⟩ | ⟨g, cap, cur, rfl, _, hg, _⟩⟩ := h
  · simp [Value.ownBlock] at hk
  · simp only [Value.ownBlock, Option.some.injEq] at hk
    subst hk
    have := hn _ _ _ hg
    rcases he with rfl | rfl
    · exact this.1 rfl
    · exact this.2 rfl
theorem NdIs.mod {S : Nat → Prop} (h : NdIs w x n) (hM : Mod S w w') (hS : ∀ k, S k → NoRow w k) : NdIs w' x n := by
  cases n with
  | leaf c v => exact h
  | inner k pt L =>
    obtain ⟨h1, h2, h3, h4, h5, h6⟩ := h
    exact ⟨h1, h2, h3, h4, ⟨O.own_mod h5.b hM (fun k hk hs => own_not h5.b (.inl rfl) hk (hS k hs)), O.own_mod h5.z hM (fun k hk hs => own_not h5.z (.inr rfl) hk (hS k hs)), h5.k1, h5.k2, h5.p, h5.len, h5.rise, h5.ok⟩, h6⟩
theorem NdIs.keep (h : NdIs w x n) (hb : Below w.heap.size w w') : NdIs w' x n := by
  cases n with
  | leaf c v => exact h
  | inner k pt L =>
    obtain ⟨h1, h2, h3, h4, h5, h6⟩ := h
    exact ⟨h1, h2, h3, h4, h5.keep hb, h6⟩
theorem Rel.mod {S : Nat → Prop} (h : Rel w l P) (hM : Mod S w w') (hS : ∀ k, S k → NoRow w k) : Rel w' l P :=
  ⟨h.len, fun i c hc => by
    obtain ⟨p, h1, h2, h3, h4⟩ := h.at_ i c hc
    exact ⟨p, h1, h2, h3, fun hi => ⟨(h4 hi).1, (h4 hi).2.1, (h4 hi).2.2.mod hM hS⟩⟩⟩
theorem Rel.keep (h : Rel w l P) (hb : Below w.heap.size w w') : Rel w' l P :=
  ⟨h.len, fun i c hc => by
    obtain ⟨p, h1, h2, h3, h4⟩ := h.at_ i c hc
    exact ⟨p, h1, h2, h3, fun hi => ⟨(h4 hi).1, (h4 hi).2.1, (h4 hi).2.2.keep hb⟩⟩⟩
theorem Rel.live (h : Rel w l P) {s g : Int} {i : Nat} {q : PNd} (hq : LiveP P s g i q) : ∃ c, S.Live l s g i c ∧ c.x.planted = q.planted ∧ c.x.died = q.died ∧ NdIs w c.x q.n := by
  obtain ⟨e, p, h1, h2, h3, h4⟩ := hq
  have hi : i < l.length := by rw [h.len]; exact (List.getElem?_eq_some_iff.1 h1).1
  have hl : l[i]? = some l[i] := List.getElem?_eq_getElem hi
  obtain ⟨p', g1, g2, g3, g4⟩ := h.at_ i _ hl
  rw [h1] at g1
  cases g1
  obtain ⟨a1, a2, a3⟩ := g4 (g2.symm.trans h2)
  subst h4
  exact ⟨l[i], ⟨e, hl, g2.symm.trans h2, g3.symm.trans h3⟩, a1.symm, a2.symm, a3⟩
theorem Rel.set (h : Rel w l P) {i : Nat} {x : Nd} {q : PNd} {g : Int} (is : Bool) (hx : is = true → q.planted = x.planted ∧ q.died = x.died ∧ NdIs w x q.n) : Rel w (l.set i ⟨is, x, g⟩) (P.set i ⟨is, q, g⟩) := by
  refine ⟨by simp [h.len], fun j c hj => ?_⟩
  by_cases hij : i = j
  · subst hij
    have hi : i < l.length := by
      have := (List.getElem?_eq_some_iff.1 hj).1
      simpa using this
    rw [List.getElem?_set_self hi] at hj
    cases hj
    exact ⟨⟨is, q, g⟩, List.getElem?_set_self (by rw [← h.len]; exact hi), rfl, rfl, hx⟩
  · rw [List.getElem?_set_ne hij] at hj
    obtain ⟨p, h1, h2⟩ := h.at_ j c hj
    exact ⟨p, by rw [List.getElem?_set_ne hij]; exact h1, h2⟩
theorem Rel.first (h : Rel w l P) {r : Int} (hf : First P r) : First l r := by
  have key : ∀ (i : Nat) (c : Cel Nd) (p : Cel PNd), l[i]? = some c → P[i]? = some p → c.room = p.room := fun i c p hc hp => by
    obtain ⟨p', h1, h2, h3, _⟩ := h.at_ i c hc
    rw [hp] at h1
    cases h1
    unfold Cel.room
    rw [h2, h3]
  have get : ∀ (i : Nat) (p : Cel PNd), P[i]? = some p → ∃ c, l[i]? = some c := fun i p hp => ⟨_, List.getElem?_eq_getElem (by rw [h.len]; exact (List.getElem?_eq_some_iff.1 hp).1)⟩
  have get2 : ∀ (i : Nat) (c : Cel Nd), l[i]? = some c → ∃ p, P[i]? = some p := fun i c hc => by obtain ⟨p, h1, _⟩ := h.at_ i c hc; exact ⟨p, h1⟩
  rcases hf with ⟨k, p, rfl, h1, h2, h3⟩ | ⟨rfl, h3⟩
  · obtain ⟨c, hc⟩ := get k p h1
    refine .inl ⟨k, c, rfl, hc, (key k c p hc h1).trans h2, fun j hj d hd => ?_⟩
    obtain ⟨pd, hpd⟩ := get2 j d hd
    exact (key j d pd hd hpd).trans (h3 j hj pd hpd)
  · refine .inr ⟨rfl, fun j d hd => ?_⟩
    obtain ⟨pd, hpd⟩ := get2 j d hd
    exact (key j d pd hd hpd).trans (h3 j pd hpd)
end
def TreeP (w : World) (t sb sg kb km : Nat) (P : List (Cel PNd)) (L : List (RefK × Wd)) (tk : Int) : Prop := ∃ l, TreeAt w t sb sg kb km l L tk ∧ Rel w l P
section
variable {w w' : World} {t sb sg kb km : Nat} {l : List (Cel Nd)} {P : List (Cel PNd)} {L : List (RefK × Wd)} {tk : Int}
theorem TreeP.keep (h : TreeP w t sb sg kb km P L tk) (hb : Below w.heap.size w w') : TreeP w' t sb sg kb km P L tk := by
  obtain ⟨l, h1, h2⟩ := h
  exact ⟨l, h1.keep hb, h2.keep hb⟩
theorem TreeAt.noRow (h : TreeAt w t sb sg kb km l L tk) : ∀ k, TOwn sg km k → NoRow w k := by
  rintro k (rfl | rfl) cs T fr hk
  · obtain ⟨cs', h1, _⟩ := h.hs.hc.hg
    rw [h1] at hk
    cases hk
    exact ⟨by decide, by decide⟩
  · obtain ⟨es, c, hm, _⟩ := h.hk.2
    rw [hm] at hk
    cases hk
end
end Go.Proofs.YtnngicopphiaaaaGreatDoor.T

namespace Go.Burg
open Go Go.RowKit
def comL : List UInt8 → List UInt8 → Nat
  | x :: l, y :: m => if x = y then comL l m + 1 else 0
  | _, _ => 0
theorem comL_alike : ∀ (l m : List UInt8) (j : Nat), j < comL l m → ∃ x, l[j]? = some x ∧ m[j]? = some x
  | x :: l, y :: m, j, h => by
    unfold comL at h
    split at h
    · rename_i e
      subst e
      cases j with
      | zero => exact ⟨x, rfl, rfl⟩
      | succ j =>
        obtain ⟨z, h1, h2⟩ := comL_alike l m j (by omega)
        exact ⟨z, by simpa using h1, by simpa using h2⟩
    · omega
  | [], m, j, h => by simp [comL] at h
  | x :: l, [], j, h => by simp [comL] at h
theorem comL_end : ∀ (l m : List UInt8) (x y : UInt8), l[comL l m]? = some x → m[comL l m]? = some y → x ≠ y
  | a :: l, b :: m, x, y, h1, h2 => by
    unfold comL at h1 h2
    split at h1
    · rename_i e
      rw [if_pos e] at h2
      exact comL_end l m x y (by simpa using h1) (by simpa using h2)
    · rename_i e
      rw [if_neg e] at h2
      simp at h1 h2
      subst h1 h2
      exact e
  | [], m, x, y, h1, h2 => by simp [comL] at h1
  | a :: l, [], x, y, h1, h2 => by simp [comL] at h2
theorem comL_at {l m : List UInt8} {n : Nat} (h1 : ∀ j, j < n → ∃ x, l[j]? = some x ∧ m[j]? = some x) (h2 : ∀ x y, l[n]? = some x → m[n]? = some y → x ≠ y) : n = comL l m := by
  rcases Nat.lt_trichotomy n (comL l m) with h | h | h
  · obtain ⟨x, e1, e2⟩ := comL_alike l m n h
    exact absurd rfl (h2 x x e1 e2)
  · exact h
  · obtain ⟨x, e1, e2⟩ := h1 _ h
    exact absurd rfl (comL_end l m x x e1 e2)
def byt (a : ByteArray) : List UInt8 := a.data.toList
theorem byt_len (a : ByteArray) : (byt a).length = a.size := Array.length_toList
def com (a b : ByteArray) : Nat := comL (byt a) (byt b)
theorem byt_get {a : ByteArray} {n : Nat} (h : n < a.size) : (byt a)[n]? = some (a[n]'h) := by
  have h2 : n < (byt a).length := by rw [byt_len]; exact h
  rw [List.getElem?_eq_getElem h2]
  simp [byt, ByteArray.getElem_eq_getElem_data]
theorem run_byte {P : Program} (w : World) (t : TypeId) (s : ByteArray) (n : Nat) (x : UInt8) (h : P.underlying t = some .string) (hx : (byt s)[n]? = some x) :
    (Instr.index t (.string s) (.int .i64 n)).run P w = .ok (.int .u8 (x.toNat : Int)) w := by
  have h2 : n < s.size := by
    have := (List.getElem?_eq_some_iff.1 hx).1
    rwa [byt_len] at this
  rw [run_index_string w t s .i64 n h, dif_pos ⟨by omega, by omega⟩]
  rw [byt_get h2] at hx
  cases hx
  simp
end Go.Burg
namespace Go.Proofs.YtnngicopphiaaaaGreatDoor.P
set_option maxRecDepth 8000
open Go.ChangeShapes Go.WideShapes Go.ChangeAt Go.RowKit Go.Burg
section
variable {a b : ByteArray} {n : Nat}
theorem has_at (w : World) : Calls Tryz.prog 105 #[(.agg #[.string a]), .int .i64 n] w fun e w' => e = .returned (.bool (decide (n < a.size))) ∧ Below w.heap.size w w' := by
  have d1 : decide ((n : Int) ≥ 0) = true := by simp
  by_cases h : n < a.size
  · have d2 : decide ((n : Int) < a.size) = true := by simp; exact h
    have e : decide (n < a.size) = true := by simp; exact h
    rw [e]
    go_enter Tryz.func105, Tryz.ntmps105
    go_wp2
    go_ret
    exact ⟨by first | rfl | simp [*], by first | exact Below.refl _ _ | (with_reducible refine Below.alloc ?_ (by first | exact Nat.le_refl _ | (simp; done) | (simp; omega)) _; first | exact Below.refl _ _ | assumption)⟩
  · have d2 : decide ((n : Int) < a.size) = false := by simp; omega
    have e : decide (n < a.size) = false := by simp; omega
    rw [e]
    go_enter Tryz.func105, Tryz.ntmps105
    go_wp2
    go_ret
    exact ⟨by first | rfl | simp [*], by first | exact Below.refl _ _ | (with_reducible refine Below.alloc ?_ (by first | exact Nat.le_refl _ | (simp; done) | (simp; omega)) _; first | exact Below.refl _ _ | assumption)⟩
end
end Go.Proofs.YtnngicopphiaaaaGreatDoor.P

namespace Go.Burg
open Go Go.RowKit
def alike (a b : ByteArray) (n : Nat) : Bool := match (byt a)[n]?, (byt b)[n]? with
  | some x, some y => x == y
  | _, _ => false
theorem alike_no1 {a b : ByteArray} {n : Nat} (h : a.size ≤ n) : alike a b n = false := by
  have e : (byt a)[n]? = none := List.getElem?_eq_none (by rw [byt_len]; exact h)
  simp [alike, e]
theorem alike_no2 {a b : ByteArray} {n : Nat} (h : b.size ≤ n) : alike a b n = false := by
  have e : (byt b)[n]? = none := List.getElem?_eq_none (by rw [byt_len]; exact h)
  unfold alike
  rw [e]
  cases (byt a)[n]? <;> rfl
theorem u8_eq (x y : UInt8) : ((x.toNat : Int) == (y.toNat : Int)) = (x == y) := by
  by_cases h : x = y
  · subst h; exact (beq_self_eq_true _).trans (beq_self_eq_true _).symm
  · have h2 : ¬ ((x.toNat : Int) = (y.toNat : Int)) := fun e => h (UInt8.toNat_inj.1 (by omega))
    exact (beq_false_of_ne h2).trans (beq_false_of_ne h).symm
end Go.Burg
namespace Go.Proofs.YtnngicopphiaaaaGreatDoor.P
set_option maxRecDepth 8000
open Go.ChangeShapes Go.WideShapes Go.ChangeAt Go.RowKit Go.Burg
section
variable {a b : ByteArray} {n A : Nat}
theorem blk_below {w w1 : World} {B b : Nat} {o : Obj} (h : w.heap[b]? = some o) (hb : Below B w w1) (hB : b < B) : w1.heap[b]? = some o := (hb.block b hB).trans h
set_option maxHeartbeats 1000000 in
theorem common1_at (w : World) (h : w.heap[A]? = some (.cells #[.string a, .string b] 166 (0, 0))) : Calls Tryz.prog 117 #[.int .i64 n, .pointer (some ⟨A, 0, none⟩)] w fun e w' => e = .returned (.bool (alike a b n)) ∧ Below w.heap.size w w' := by
  have H := hid h
  clear h
  by_cases h1 : n < a.size
  · have HE := hid (show decide (n < a.size) = true by simp; exact h1)
    by_cases h2 : n < b.size
    · have d2 : decide ((n : Int) < b.size) = true := by simp; exact h2
      have ex := byt_get h1
      have ey := byt_get h2
      generalize a[n] = x at ex
      generalize b[n] = y at ey
      have r1 : ∀ w, (Instr.index 9 (.string a) (.int .i64 n)).run Tryz.prog w = .ok (.int .u8 (x.toNat : Int)) w := fun w => run_byte w _ a n x (by kernel_rfl) ex
      have r2 : ∀ w, (Instr.index 9 (.string b) (.int .i64 n)).run Tryz.prog w = .ok (.int .u8 (y.toNat : Int)) w := fun w => run_byte w _ b n y (by kernel_rfl) ey
      have e : alike a b n = ((x.toNat : Int) == (y.toNat : Int)) := by rw [u8_eq]; unfold alike; rw [ex, ey]
      rw [e]
      clear ex ey e h1 d2
      go_enter Tryz.func117, Tryz.ntmps117
      go_wp2_with fail
      refine wp_region_seq 24 (fun w1 => Below (w).heap.size (w) w1) (by kernel_rfl) (by kernel_rfl) (by kernel_rfl) ⟨rfl, rfl, rfl, Nat.le_refl _, fun _ _ => rfl⟩ ?_
      dsimp only [List.take]
      iterate 24
        refine Seq.cons (a' := ?_) ?_ ?_ ?_
        rotate_left
        ·
          intro w1 hw1
          have a0 := cell_of (blk_below H.out hw1 (lt_of_block H.out)) 0; have a1 := cell_of (blk_below H.out hw1 (lt_of_block H.out)) 1
          go_wp2_with (go_at_call 105; refine (has_at _).mono ?_; rintro e w' ⟨rfl, hb⟩; rw [HE.out] at *)
          refine ⟨?_, by first | assumption | (simpa using below_chain hw1 hb hw1.size)⟩
          exact rfl
        · kernel_rfl
      refine SeqI.nil ?_
      intro _ w1 _ hw1
      dsimp only [List.drop]
      go_wp2_with fail
      go_ret
      exact ⟨by first | rfl | simp [*], hw1⟩
    ·
      rw [alike_no2 (by omega)]
      go_enter Tryz.func117, Tryz.ntmps117
      go_wp2_with fail
      refine wp_region_seq 24 (fun w1 => Below (w).heap.size (w) w1) (by kernel_rfl) (by kernel_rfl) (by kernel_rfl) ⟨rfl, rfl, rfl, Nat.le_refl _, fun _ _ => rfl⟩ ?_
      dsimp only [List.take]
      iterate 24
        refine Seq.cons (a' := ?_) ?_ ?_ ?_
        rotate_left
        ·
          intro w1 hw1
          have a0 := cell_of (blk_below H.out hw1 (lt_of_block H.out)) 0; have a1 := cell_of (blk_below H.out hw1 (lt_of_block H.out)) 1
          go_wp2_with (go_at_call 105; refine (has_at _).mono ?_; rintro e w' ⟨rfl, hb⟩; rw [HE.out] at *)
          refine ⟨?_, by first | assumption | (simpa using below_chain hw1 hb hw1.size)⟩
          exact rfl
        · kernel_rfl
      refine SeqI.nil ?_
      intro _ w1 _ hw1
      dsimp only [List.drop]
      go_wp2_with fail
      go_ret
      exact ⟨by first | rfl | simp [*], hw1⟩
  · have HE := hid (show decide (n < a.size) = false by simp; omega)
    rw [alike_no1 (by omega)]
    go_enter Tryz.func117, Tryz.ntmps117
    go_wp2_with fail
    refine wp_region_seq 24 (fun w1 => Below (w).heap.size (w) w1) (by kernel_rfl) (by kernel_rfl) (by kernel_rfl) ⟨rfl, rfl, rfl, Nat.le_refl _, fun _ _ => rfl⟩ ?_
    dsimp only [List.take]
    iterate 24
      refine Seq.cons (a' := ?_) ?_ ?_ ?_
      rotate_left
      ·
        intro w1 hw1
        have a0 := cell_of (blk_below H.out hw1 (lt_of_block H.out)) 0; have a1 := cell_of (blk_below H.out hw1 (lt_of_block H.out)) 1
        go_wp2_with (go_at_call 105; refine (has_at _).mono ?_; rintro e w' ⟨rfl, hb⟩; rw [HE.out] at *)
        refine ⟨?_, by first | assumption | (simpa using below_chain hw1 hb hw1.size)⟩
        exact rfl
      · kernel_rfl
    refine SeqI.nil ?_
    intro _ w1 _ hw1
    dsimp only [List.drop]
    go_wp2_with fail
    go_ret
    exact ⟨by first | rfl | simp [*], hw1⟩
end
end Go.Proofs.YtnngicopphiaaaaGreatDoor.P

namespace Go.Burg
open Go Go.RowKit
theorem alike_com {a b : ByteArray} {n : Nat} (h : ∀ j, j < n → alike a b j = true) (h2 : alike a b n = false) : n = com a b := by
  refine comL_at (fun j hj => ?_) (fun x y hx hy => ?_)
  · have := h j hj
    unfold alike at this
    split at this
    · rename_i x y hx hy
      have e := eq_of_beq this
      subst e
      exact ⟨x, hx, hy⟩
    · cases this
  · intro e
    subst e
    unfold alike at h2
    rw [hx, hy] at h2
    simp at h2
theorem alike_lt {a b : ByteArray} {n : Nat} (h : alike a b n = true) : n < a.size := by
  rcases Nat.lt_or_ge n a.size with h1 | h1
  · exact h1
  · rw [alike_no1 h1] at h; cases h
end Go.Burg
namespace Go.Proofs.YtnngicopphiaaaaGreatDoor.P
set_option maxRecDepth 8000
open Go.ChangeShapes Go.WideShapes Go.ChangeAt Go.RowKit Go.Burg
section
variable {a b : ByteArray} {n A : Nat}
set_option maxHeartbeats 1000000 in
theorem common_at (w : World) (ha : a.size ≤ 100000) : Calls Tryz.prog 103 #[.agg #[.string a, .string b]] w fun e w' => e = .returned (.int .i64 (com a b)) ∧ Below w.heap.size w w' := by
  have hmf : ∀ (fn : Fn) (first cap : Array Value) (w : World), (Instr.makeFunc fn first cap).run Tryz.prog w = .ok (.func fn first cap) w := fun _ _ _ _ => rfl
  have h0 := heap_new w (.cells #[.string a, .string b] 166 (0, 0))
  have hB : Below w.heap.size w (w.alloc (.cells #[.string a, .string b] 166 (0, 0))) := (Below.refl _ _).alloc (Nat.le_refl _) _
  go_enter Tryz.func103, Tryz.ntmps103
  go_wp2_with fail
  generalize w.alloc (.cells #[.string a, .string b] 166 (0, 0)) = W at *
  generalize hu : w.heap.size = u at *
  have HB := hid hB
  have H0 := hid h0
  have HA := hid ha
  clear hB h0 ha
  go_loopw [4] (fun iv wr => ∃ k : Nat, k ≤ a.size ∧ iv = .int .i64 k ∧ (∀ j, j < k → alike a b j = true) ∧ Below W.heap.size W wr) (fun iv _ => a.size - (intOf iv).toNat)
  case atStart => exact ⟨0, Nat.zero_le _, rfl, fun j hj => absurd hj (Nat.not_lt_zero _), Below.refl _ _⟩
  case round =>
    obtain ⟨k, hk, rfl, hall, hb⟩ := hrel
    have HC := hid (common1_at (n := k) wr ((hb.block u (lt_of_block H0.out)).trans H0.out))
    have HBB := hid hb
    have HALL := hid hall
    clear hb hall
    cases hal : alike a b k
    · rw [hal] at HC
      go_wp2_with (go_at_call 117; refine HC.out.mono ?_; rintro e w2 ⟨rfl, hb2⟩; have HB2 := hid hb2; clear hb2)
      go_ret
      refine ⟨?_, by rw [hu]; exact HB.out.trans ((HBB.out.trans (HB2.out.mono HBB.out.size)).mono (by have := HB.out.size; omega))⟩
      rw [← alike_com HALL.out hal]
      rfl
    · rw [hal] at HC
      have hlt := alike_lt hal
      have ha1 := HA.out
      go_wp2_with (go_at_call 117; refine HC.out.mono ?_; rintro e w2 ⟨rfl, hb2⟩; have HB2 := hid hb2; clear hb2)
      go_roundw
      case rel => exact ⟨k + 1, by omega, by go_num, fun j hj => by
        rcases Nat.lt_succ_iff_lt_or_eq.1 hj with h | rfl
        · exact HALL.out j h
        · exact hal, HBB.out.trans (HB2.out.mono HBB.out.size)⟩
      case measure => simp [intOf]; omega
theorem Common_at (w : World) (ha : a.size ≤ 100000) : Calls Tryz.prog 74 #[.string a, .string b] w fun e w' => e = .returned (.int .i64 (com a b)) ∧ Below w.heap.size w w' := by
  have HC := hid (common_at (b := b) w ha)
  go_enter Tryz.func74, Tryz.ntmps74
  go_wp2_with (go_at_call 103; refine HC.out.mono ?_; rintro e w2 ⟨rfl, hb2⟩; have HB2 := hid hb2; clear hb2)
  go_ret
  exact ⟨rfl, HB2.out⟩
end
end Go.Proofs.YtnngicopphiaaaaGreatDoor.P

namespace Go.Proofs.YtnngicopphiaaaaGreatDoor.P
set_option maxRecDepth 8000
open Go.ChangeShapes Go.WideShapes Go.ChangeAt Go.RowKit Go.Burg
end Go.Proofs.YtnngicopphiaaaaGreatDoor.P
