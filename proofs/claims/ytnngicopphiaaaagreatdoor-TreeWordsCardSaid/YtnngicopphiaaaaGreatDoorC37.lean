/- Part 37 of 51 of a proof: lemmas on the functions that it reaches. -/
import Derived.Test.YtnngicopphiaaaaGreatDoorC36
namespace Go.Proofs.YtnngicopphiaaaaGreatDoor.T
set_option maxRecDepth 8000
open Go.ChangeShapes Go.WideShapes Go.ChangeAt Go.RowKit Go.Burg
open Go.Burg.Lk
section
variable {w w' : World} {t sb sg kb km : Nat} {l : List (Cel Nd)} {P : List (Cel PNd)} {L : List (RefK × Wd)} {tk : Int}
theorem TreeP.noRow (h : TreeP w t sb sg kb km P L tk) : ∀ k, TOwn sg km k → NoRow w k := by
  obtain ⟨l, h1, _⟩ := h
  exact h1.noRow
theorem TreeP.lt (h : TreeP w t sb sg kb km P L tk) : t < w.heap.size ∧ sb < w.heap.size ∧ sg < w.heap.size ∧ kb < w.heap.size ∧ km < w.heap.size := by
  obtain ⟨l, h, _⟩ := h
  exact ⟨lt_of_block h.ht, h.hs.blt, h.hs.glt, h.hk.lt.1, h.hk.lt.2⟩
theorem TreeP.mod {S : Nat → Prop} (h : TreeP w t sb sg kb km P L tk) (hM : Mod S w w') (hS : ∀ k, S k → NoRow w k) (h1 : ¬ S t) (h2 : ¬ S sb) (h3 : ¬ S sg) (h4 : ¬ S kb) (h5 : ¬ S km) : TreeP w' t sb sg kb km P L tk := by
  obtain ⟨l, a, b⟩ := h
  exact ⟨l, a.mod hM h1 h2 h3 h4 h5, b.mod hM hS⟩
theorem take_leaf {j : Nat} {pj : Cel PNd} (c v : ByteArray) (w : World) (h : TreeP w t sb sg kb km P L tk) (hF : First P (j : Int)) (hj : P[j]? = some pj) (hjr : pj.room = true) (rr : RefK) (hr1 : rr.1.1 = j) (hr2 : rr.1.2 = pj.gen + 1) :
    Calls Tryz.prog 24 #[.pointer (some ⟨t, 0, none⟩), .agg #[.int .i64 1, .string c, .string v, .string ⟨#[]⟩, .slice none 0 0, .slice none 0 0], .bool false] w fun e w' => e = .returned (.tuple #[.agg #[.int .i64 j, .int .u32 (pj.gen + 1)], .int .i64 0]) ∧ TreeP w' t sb sg kb km (P.set j ⟨true, ⟨.leaf c v, false, false⟩, pj.gen + 1⟩) (K.addL L rr).2 tk ∧ Mod (TOwn sg km) w w' := by
  obtain ⟨l, h1, h2⟩ := h
  obtain ⟨cj, hcj, _, hcg, hcr⟩ := h2.cell hj
  have := take_at 1 c v ⟨#[]⟩ none none 0 0 0 0 false w h1 (h2.first hF) hcj (hcr.trans hjr) rr hr1 (hr2.trans (by rw [hcg]))
  rw [hcg] at this
  refine this.mono ?_
  rintro e w' ⟨e1, hT, hM⟩
  exact ⟨e1, ⟨_, hT, Rel.set (q := ⟨.leaf c v, false, false⟩) (h2.mod hM h1.noRow) true (fun _ => ⟨rfl, rfl, rfl, rfl, rfl, rfl, rfl, rfl⟩)⟩, hM⟩
theorem TreeP.inner {s g : Int} {i k : Nat} {pt : ByteArray} {Lk : List Kd} {pl di : Bool} (h : TreeP w t sb sg kb km P L tk) (hq : LiveP P s g i ⟨.inner k pt Lk, pl, di⟩) :
    ∃ l ya yc za zc, TreeAt w t sb sg kb km l L tk ∧ Rel w l P ∧ S.Live l s g i ⟨true, ⟨k, ⟨#[]⟩, ⟨#[]⟩, pt, ⟨ya, Lk.length, yc⟩, ⟨za, Lk.length, zc⟩, pl, di⟩, g⟩ ∧ O.NodeIn w k pt ya Lk.length yc za Lk.length zc Lk ∧ O.MayB k Lk.length pt := by
  obtain ⟨l, h1, h2⟩ := h
  obtain ⟨⟨xis, ⟨kn, cd, vl, xp, ⟨ya, yn, yc⟩, ⟨za, zn, zc⟩, xpl, xdi⟩, xgn⟩, hLx, hplx, hdix, hNx⟩ := h2.live hq
  obtain ⟨rfl, rfl, rfl, rfl, hNI, hMB⟩ := hNx
  simp only at hplx hdix hNI
  obtain rfl : zn = Lk.length := O.own_len hNI.z
  obtain rfl : yn = Lk.length := O.own_len hNI.b
  obtain rfl : xis = true := hLx.2.2.1
  obtain rfl : xgn = g := hLx.2.2.2
  subst hplx hdix
  exact ⟨l, ya, yc, za, zc, h1, h2, hLx, hNI, hMB⟩
theorem TreeP.leaf {s g : Int} {i : Nat} {c v : ByteArray} {pl di : Bool} (h : TreeP w t sb sg kb km P L tk) (hq : LiveP P s g i ⟨.leaf c v, pl, di⟩) :
    ∃ l, TreeAt w t sb sg kb km l L tk ∧ Rel w l P ∧ S.Live l s g i ⟨true, ⟨1, c, v, ⟨#[]⟩, ⟨none, 0, 0⟩, ⟨none, 0, 0⟩, pl, di⟩, g⟩ := by
  obtain ⟨l, h1, h2⟩ := h
  obtain ⟨⟨xis, ⟨kn, cd, vl, xp, ⟨ya, yn, yc⟩, ⟨za, zn, zc⟩, xpl, xdi⟩, xgn⟩, hLx, hplx, hdix, hNx⟩ := h2.live hq
  obtain ⟨e1, e2, e3, e4, e5, e6⟩ := hNx
  simp only at hplx hdix e1 e2 e3 e4 e5 e6
  cases e5
  cases e6
  obtain rfl : xis = true := hLx.2.2.1
  obtain rfl : xgn = g := hLx.2.2.2
  subst hplx hdix e1 e2 e3 e4
  exact ⟨l, h1, h2, hLx⟩
theorem kid_P {i jj k : Nat} {pt : ByteArray} {pl di : Bool} {Lk : List Kd} {kk : Kd} (us ug fs fg ts tg : Int) (w : World) (h : TreeP w t sb sg kb km P L tk) (hr : RoomsAt w) (hu : LiveP P us ug i ⟨.inner k pt Lk, pl, di⟩)
    (hj : Lk[jj]? = some kk) (hf : findK Lk kk.b = some kk) (hs : kk.s = fs) (hg : kk.g = fg) (hn : ∀ i k, i < jj → Lk[i]? = some k → ¬ (k.s = fs ∧ k.g = fg)) (hok : (⟨kk.b, ts, tg⟩ : Kd).ok) :
    Calls Tryz.prog 43 #[.pointer (some ⟨t, 0, none⟩), .agg #[.int .i64 us, .int .u32 ug], .agg #[.int .i64 fs, .int .u32 fg], .agg #[.int .i64 ts, .int .u32 tg]] w fun e w' => e = .returned (.tuple #[]) ∧ TreeP w' t sb sg kb km (P.set i ⟨true, ⟨.inner k pt (turnK Lk kk.b ts tg), pl, di⟩, ug⟩) L tk ∧ Mod (· = sg) w w' := by
  obtain ⟨l, ya, yc, za, zc, h1, h2, hL, hN, hB⟩ := h.inner hu
  refine (kid_at us ug fs fg ts tg w h1 hr hL hN hB hj hf hs hg hn hok).mono ?_
  rintro e w' ⟨ya', yc', za', zc', e1, hT, hN', hM⟩
  exact ⟨e1, ⟨_, hT, Rel.set (q := ⟨.inner k pt (turnK Lk kk.b ts tg), pl, di⟩) (h2.mod hM (fun k' e => h1.noRow k' (.inl e))) true (fun _ => ⟨rfl, rfl, rfl, rfl, rfl, rfl, hN', by rw [O.turnK_len]; exact hB⟩)⟩, hM⟩
end
end Go.Proofs.YtnngicopphiaaaaGreatDoor.T

namespace Go.Burg
open Go Go.RowKit
def dieP (P : List (Cel PNd)) (r : Int × Int) : List (Cel PNd) := match P[r.1.toNat]? with
  | some p => P.set r.1.toNat ⟨p.is, ⟨p.x.n, p.x.planted, true⟩, p.gen⟩
  | none => P
def dieAll (P : List (Cel PNd)) (W : List (Int × Int)) : List (Cel PNd) := W.foldl dieP P
theorem dieAll_take {P : List (Cel PNd)} {W : List (Int × Int)} {k : Nat} {r : Int × Int} (h : W[k]? = some r) : dieAll P (W.take (k + 1)) = dieP (dieAll P (W.take k)) r := by
  unfold dieAll
  rw [List.take_add_one, h]
  simp [List.foldl_append]
theorem dieP_live {P : List (Cel PNd)} {s g : Int} {i : Nat} {q : PNd} (h : LiveP P s g i q) : dieP P (s, g) = P.set i ⟨true, ⟨q.n, q.planted, true⟩, g⟩ := by
  obtain ⟨rfl, p, h1, h2, h3, rfl⟩ := h
  have e : ((i : Int)).toNat = i := by simp
  unfold dieP
  simp only [e, h1, h2, h3]
theorem LiveP.dieP {P : List (Cel PNd)} {s g : Int} {i : Nat} {q : PNd} (h : LiveP P s g i q) (r : Int × Int) : ∃ di, LiveP (dieP P r) s g i ⟨q.n, q.planted, di⟩ := by
  obtain ⟨rfl, p, h1, h2, h3, rfl⟩ := h
  unfold Go.Burg.dieP
  by_cases e : r.1.toNat = i
  · rw [e, h1]
    have hl : i < P.length := (List.getElem?_eq_some_iff.1 h1).1
    exact ⟨true, rfl, _, List.getElem?_set_self hl, h2, h3, rfl⟩
  · cases hp : P[r.1.toNat]? with
    | none => exact ⟨p.x.died, rfl, p, h1, h2, h3, rfl⟩
    | some p' => exact ⟨p.x.died, rfl, p, by simp only; rw [List.getElem?_set_ne e]; exact h1, h2, h3, rfl⟩
theorem LiveP.dieAll {P : List (Cel PNd)} {s g : Int} {i : Nat} {q : PNd} (h : LiveP P s g i q) (W : List (Int × Int)) : ∃ di, LiveP (dieAll P W) s g i ⟨q.n, q.planted, di⟩ := by
  induction W generalizing P q with
  | nil => exact ⟨q.died, h⟩
  | cons r W ih =>
    obtain ⟨di, h'⟩ := h.dieP r
    have := ih h'
    exact this
end Go.Burg
namespace Go.Proofs.YtnngicopphiaaaaGreatDoor.T
set_option maxRecDepth 8000
open Go.ChangeShapes Go.WideShapes Go.ChangeAt Go.RowKit Go.Burg
open Go.Burg.Lk
theorem node_is_mod {S : Nat → Prop} {w w' : World} {x x' : Nd} {n : PN} (h : NdIs w x n) (hM : Mod S w w') (hS : ∀ k, S k → NoRow w k) (e : x' = { x with died := x'.died } := by rfl) : NdIs w' x' n := by
  have := h.mod hM hS
  rw [e]
  cases n <;> exact this
set_option maxRecDepth 20000 in
set_option maxHeartbeats 8000000 in
theorem die_at {t sb sg kb km g n cap : Nat} {P : List (Cel PNd)} {L : List (RefK × Wd)} {tk : Int} {W0 : List (Int × Int)} (w : World) (h : TreeP w t sb sg kb km P L tk) (hn : W0.length = n) (h100 : n ≤ 100) (hl : ∀ r, r ∈ W0 → ∃ i q, LiveP P r.1 r.2 i q)
    (hc : ∀ k r, W0[k]? = some r → w.cell? ⟨g, k * 2, none⟩ = some (.int .i64 r.1) ∧ w.cell? ⟨g, k * 2 + 1, none⟩ = some (.int .u32 r.2)) (hg : g < w.heap.size) (hgs : g ≠ sg) :
    Calls Tryz.prog 44 #[.pointer (some ⟨t, 0, none⟩), .slice (some ⟨g, 0, none⟩) n cap] w fun e w' => e = .returned (.slice (some ⟨g, 0, none⟩) n cap) ∧ TreeP w' t sb sg kb km (dieAll P W0) L tk ∧ Mod (· = sg) w w' := by
  subst hn
  have HH := hid h
  have HC := hid hc
  have HG := hid (And.intro hg hgs)
  have HLV := hid hl
  have HLT := hid h.lt
  clear h hc hg hgs hl
  go_enter Tryz.func44, Tryz.ntmps44
  go_wp2_with fail
  go_loopw [11] (fun iv wr => ∃ k : Nat, k ≤ W0.length ∧ iv = .int .i64 k ∧ TreeP wr t sb sg kb km (dieAll P (W0.take k)) L tk ∧ Mod (· = sg) w wr) (fun iv _ => W0.length - (intOf iv).toNat)
  case atStart => exact ⟨0, Nat.zero_le _, rfl, HH.out, Mod.refl _ _⟩
  case round =>
    obtain ⟨k, hk, rfl, hT, hM0⟩ := hrel
    by_cases hlt : k < W0.length
    · obtain ⟨⟨slot, gen⟩, hr⟩ : ∃ r, W0[k]? = some r := ⟨_, List.getElem?_eq_getElem hlt⟩
      obtain ⟨i, q0, hq0⟩ := HLV.out _ (List.mem_of_getElem? hr)
      obtain ⟨di', hq⟩ := hq0.dieAll (W0.take k)
      have hst := (dieAll_take (P := P) hr).trans (dieP_live hq)
      have HST := hid hst
      obtain ⟨l, hTA, hRE⟩ := hT
      obtain ⟨⟨xis, ⟨kn, cd, vl, pt, ⟨ya, yn, yc⟩, ⟨za, zn, zc⟩, pl, di⟩, gn⟩, hL, hpl, hdi, hNd⟩ := hRE.live hq
      obtain rfl : xis = true := hL.2.2.1
      obtain rfl : gen = gn := hL.2.2.2.symm
      simp only at hpl hdi hNd
      have HND := hid (And.intro hpl hNd)
      have HRE := hid hRE
      obtain ⟨r0, r1⟩ := HC.out k _ hr
      have g0 := (World.cell?_of_block (w := w) (hM0.block g HG.out.1 HG.out.2)).trans r0
      have g1 := (World.cell?_of_block (w := w) (hM0.block g HG.out.1 HG.out.2)).trans r1
      have HM0 := hid hM0
      have HWS : Hid (w.heap.size ≤ wr.heap.size) := hid hM0.size
      have hd : decide (W0.length ≤ k) = false := by simp; exact hlt
      have HTA := hid hTA
      have HL := hid hL
      clear hr hq0 hq hst hL hpl hdi hNd hRE r0 r1 hM0 hTA
      have hN := heap_new wr (.cells #[.int .i64 slot, .int .u32 gen] 30 (0, 0))
      have hA := HTA.out.alloc (.cells #[.int .i64 slot, .int .u32 gen] 30 (0, 0))
      have hB : Below wr.heap.size wr (wr.alloc (.cells #[.int .i64 slot, .int .u32 gen] 30 (0, 0))) := (Below.refl _ _).alloc (Nat.le_refl _) _
      generalize hW : wr.alloc (.cells #[.int .i64 slot, .int .u32 gen] 30 (0, 0)) = W at *
      generalize hv : wr.heap.size = v at *
      have HW := hid hW
      have HV := hid hv
      have HA := hid hA
      have HN := hid hN
      have HB := hid hB
      have HT : Hid (∀ w1, Below W.heap.size W w1 → Calls Tryz.prog 30 #[.pointer (some ⟨sb, 0, none⟩), .agg #[.int .i64 slot, .int .u32 gen]] w1 fun e w' => e = .returned (.tuple #[.agg #[.int .i64 kn, .string cd, .string vl, .string pt, .slice ya yn yc, .slice za zn zc, .bool pl, .bool di], .bool true]) ∧ Below w1.heap.size w1 w') := hid (fun (w1 : World) (hw1 : Below W.heap.size W w1) => S.get_live slot gen w1 (HA.out.keep hw1).hs HL.out)
      have l0 := lt_of_block HN.out
      have l1 := lt_of_block HA.out.ht
      clear hW hA hN hB hv
      go_wp2_with fail
      rw [HW.out, HV.out]
      have c0 := cell_of HA.out.ht 0
      have n0 := cell_of HN.out 0
      have n1 := cell_of HN.out 1
      go_region_with (go_at_call 30; refine (HT.out _ (by (repeat (first | exact Below.refl _ _ | assumption | with_reducible refine Below.drew ?_ | with_reducible refine below_drewN ?_ | with_reducible refine Below.setCell ?_ (by first | (simp; done) | (simp; omega)) _ | with_reducible refine Below.alloc ?_ (by first | exact Nat.le_refl _ | (simp; done) | (simp; omega)) _)))).mono ?_; rintro e w2 ⟨rfl, hw2⟩; (try (have z := (hw2.block W.heap.size (by simp)).trans (heap_new W (.cells #[.int .i64 0, .string ⟨#[]⟩, .string ⟨#[]⟩, .string ⟨#[]⟩, .slice none 0 0, .slice none 0 0, .bool false, .bool false] 61 (0, 0))); have z0 := cell_of z 0; have z1 := cell_of z 1; have z2 := cell_of z 2; have z3 := cell_of z 3; have z4 := cell_of z 4; have z5 := cell_of z 5; have z6 := cell_of z 6; have z7 := cell_of z 7; have zf := free_of z)); have HW2 : Hid (Below W.heap.size W w2) := hid (below_chain (by (repeat (first | exact Below.refl _ _ | assumption | with_reducible refine Below.drew ?_ | with_reducible refine below_drewN ?_ | with_reducible refine Below.setCell ?_ (by first | (simp; done) | (simp; omega)) _ | with_reducible refine Below.alloc ?_ (by first | exact Nat.le_refl _ | (simp; done) | (simp; omega)) _))) hw2 (by first | exact Nat.le_refl _ | (simp; done) | (simp; omega))); clear hw2)
      all_goals first | (have hmid := nmidB (kn := kn) (cd := cd) (vl := vl) (pt := pt) (ya := ya) (za := za) (yn := yn) (yc := yc) (zn := zn) (zc := zc) (pl := pl) (di := di) HW2.out z; generalize hE : ((((((((w2.setCell ⟨W.heap.size, 0, none⟩ (.int .i64 kn)).setCell ⟨W.heap.size, 1, none⟩ (.string cd)).setCell ⟨W.heap.size, 2, none⟩ (.string vl)).setCell ⟨W.heap.size, 3, none⟩ (.string pt)).setCell ⟨W.heap.size, 4, none⟩ (.slice ya yn yc)).setCell ⟨W.heap.size, 5, none⟩ (.slice za zn zc)).setCell ⟨W.heap.size, 6, none⟩ (.bool pl)).setCell ⟨W.heap.size, 7, none⟩ (.bool di)) = w3 at hmid ⊢; generalize hEu : W.heap.size = u at hmid ⊢) | (have hmid := nmidA (o := (.cells #[.int .i64 kn, .string cd, .string vl, .string pt, .slice ya yn yc, .slice za zn zc, .bool pl, .bool di] 61 (0, 0))) HW2.out; generalize hE : w2.alloc (.cells #[.int .i64 kn, .string cd, .string vl, .string pt, .slice ya yn yc, .slice za zn zc, .bool pl, .bool di] 61 (0, 0)) = w3 at hmid ⊢; generalize hEu : w2.heap.size = u at hmid ⊢)
      all_goals
        try clear z z0 z1 z2 z3 z4 z5 z6 z7 zf
        clear hE hEu HT c0 n0 n1 HW2
        obtain ⟨hb3, hu, ho⟩ := hmid
        have hn := blk_below HN.out hb3 l0
        have ht := blk_below HA.out.ht hb3 l1
        have of := free_of ho
        have hA3 := HA.out.keep hb3
        have o7 := cell_of ho 7
        have hs7 : (w3.setCell ⟨u, 7, none⟩ (.bool true)).heap[u]? = some (.cells #[.int .i64 kn, .string cd, .string vl, .string pt, .slice ya yn yc, .slice za zn zc, .bool pl, .bool true] 61 (0, 0)) := set_at ho rfl
        have hm7 : Mod (· = u) w3 (w3.setCell ⟨u, 7, none⟩ (.bool true)) := Mod.setCell (S := (· = u)) (p := ⟨u, 7, none⟩) (Mod.refl _ _) (.inl rfl) _
        have HS7 := hid (And.intro hs7 hm7)
        have HN3 := hid hn
        have HT3 := hid ht
        have HA3 := hid hA3
        have HB3 := hid hb3
        have hWs := HB.out.size
        clear hn ht ho hb3 hA3 HN HA hs7 hm7
        go_wp2_with fail
        have hlt := HLT.out
        obtain ⟨hO4, hM4⟩ := HS7.out
        generalize w3.setCell ⟨u, 7, none⟩ (.bool true) = w4 at *
        have hws := HWS.out
        have hts : t ≠ sg := HA3.out.ne.1
        have hns : v ≠ sg := by omega
        have hus : u ≠ sg := by omega
        have HT4 := hid ((hM4.block t (lt_of_block HT3.out) (show ¬ t = u by omega)).trans HT3.out)
        have HN4 := hid ((hM4.block v (lt_of_block HN3.out) (show ¬ v = u by omega)).trans HN3.out)
        have HO4 := hid hO4
        have HA4 := hid (HA3.out.mod hM4 (show ¬ t = u by omega) (show ¬ sb = u by omega) (show ¬ sg = u by omega) (show ¬ kb = u by omega) (show ¬ km = u by omega))
        have HM4 : Hid (Mod (· = sg) wr w4) := hid ((Mod.ofBelow (S := (· = sg)) (HV.out ▸ (HB.out.trans (HB3.out.mono (by have := HV.out; omega))))).trans hM4 (fun i hi e => by have : i = u := e; have := HV.out; omega))
        clear hO4 hM4 HS7 of o7
        refine wp_region_seqI 7 (Turn 6 (fun w1 => Mod (· = sg) w4 w1 ∧ SlabN 124 106 w1 sb sg l) (fun w1 => Mod (· = sg) w4 w1 ∧ SlabN 124 106 w1 sb sg (l.set i ⟨true, (⟨kn, cd, vl, pt, ⟨ya, yn, yc⟩, ⟨za, zn, zc⟩, pl, true⟩ : Nd), gen⟩))) (by kernel_rfl) (by kernel_rfl) (by kernel_rfl) (Turn.start ⟨(Mod.refl (· = sg) w4).drew, HA4.out.hs.same rfl rfl⟩) ?_
        dsimp only [List.take]
        iterate 6
          refine Seq.calm (a' := ?_) (by decide) ?_ ?_ ?_
          rotate_left
          ·
            intro w1 hw1
            have hM : Mod (· = sg) w4 w1 := hw1.elim (·.1) (·.1)
            have ht := (hM.block t (lt_of_block HT4.out) hts).trans HT4.out
            have hn := (hM.block v (lt_of_block HN4.out) hns).trans HN4.out
            have ho := (hM.block u (lt_of_block HO4.out) hus).trans HO4.out
            have c0 := cell_of ht 0
            have n0 := cell_of hn 0
            have n1 := cell_of hn 1
            have o0 := cell_of ho 0
            have o1 := cell_of ho 1
            have o2 := cell_of ho 2
            have o3 := cell_of ho 3
            have o4 := cell_of ho 4
            have o5 := cell_of ho 5
            have o6 := cell_of ho 6
            have o7 := cell_of ho 7
            clear hM ht hn ho hw1
            go_wp2_with (fail)
            first | (refine ⟨?_, id, id⟩; exact rfl) | (refine ⟨?_, fail⟩; exact rfl)
          · kernel_rfl
        refine Seq.turn (a' := ?_) ?_ ?_ ?_
        rotate_left
        ·
          intro w1 hw1
          have HM := hid hw1.1
          have HS1 := hid hw1.2
          clear hw1
          go_wp2_with (go_at_call 76; refine (S.set_live slot gen _ HS1.out HL.out).mono ?_; rintro e w2 ⟨rfl, hS, hX⟩)
          refine ⟨?_, HM.out.trans hX (fun _ _ h => h), hS⟩
          exact rfl
        · kernel_rfl
        iterate 0
          refine Seq.calm (a' := ?_) (by decide) ?_ ?_ ?_
          rotate_left
          ·
            intro w1 hw1
            have hM : Mod (· = sg) w4 w1 := hw1.elim (·.1) (·.1)
            have ht := (hM.block t (lt_of_block HT4.out) hts).trans HT4.out
            have hn := (hM.block v (lt_of_block HN4.out) hns).trans HN4.out
            have ho := (hM.block u (lt_of_block HO4.out) hus).trans HO4.out
            have c0 := cell_of ht 0
            have n0 := cell_of hn 0
            have n1 := cell_of hn 1
            have o0 := cell_of ho 0
            have o1 := cell_of ho 1
            have o2 := cell_of ho 2
            have o3 := cell_of ho 3
            have o4 := cell_of ho 4
            have o5 := cell_of ho 5
            have o6 := cell_of ho 6
            have o7 := cell_of ho 7
            clear hM ht hn ho hw1
            go_wp2_with (fail)
            first | (refine ⟨?_, id, id⟩; exact rfl) | (refine ⟨?_, fail⟩; exact rfl)
          · kernel_rfl
        refine SeqI.nil ?_
        intro D w1 hD hI
        replace hI := hI.done (hD 6 (by omega))
        clear hD
        dsimp only [List.drop]
        obtain ⟨hM1, hS1⟩ := hI
        have HE := hid (And.intro hM1 hS1)
        clear hM1 hS1
        go_wp2_with fail
        obtain ⟨hM1, hS1⟩ := HE.out
        have hne := HA4.out.ne
        have hMt := HM4.out.trans hM1 (fun _ _ h => h)
        refine ⟨⟨k + 1, by omega, by go_num, ?_, HM0.out.trans hMt (fun _ _ h => h)⟩, by simp [intOf]; omega⟩
        rw [HST.out]
        exact ⟨_, ⟨(hM1.block t (lt_of_block HT4.out) hts).trans HT4.out, hS1, HA4.out.hk.mod hM1 hne.2.2.2.2.1 (fun e => hne.2.2.2.2.2.2 e.symm)⟩, Rel.set (x := (⟨kn, cd, vl, pt, ⟨ya, yn, yc⟩, ⟨za, zn, zc⟩, pl, true⟩ : Nd)) (q := ⟨q0.n, q0.planted, true⟩) (HRE.out.mod hMt (fun k' e => HTA.out.noRow k' (.inl e))) true (fun _ => ⟨HND.out.1.symm, rfl, node_is_mod HND.out.2 hMt (fun k' e => HTA.out.noRow k' (.inl e))⟩)⟩
    · obtain rfl : k = W0.length := by omega
      have hd : decide (W0.length ≤ W0.length) = true := by simp
      have HE := hid (And.intro hT hM0)
      clear hT hM0
      go_wp2_with fail
      go_ret
      obtain ⟨hT, hM0⟩ := HE.out
      rw [List.take_length] at hT
      exact ⟨rfl, hT, hM0⟩
end Go.Proofs.YtnngicopphiaaaaGreatDoor.T
